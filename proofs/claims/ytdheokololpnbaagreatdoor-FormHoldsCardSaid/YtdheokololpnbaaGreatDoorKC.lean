/-
  The theorem of stage 13: the law FormHolds returns true for every list of nodes, where the program's words of flaws are laid as its text lays them. Part 3 of 9.
-/
import Derived.Test.YtdheokololpnbaaGreatDoorKB
import Derived.Orders
import Derived.WalkKit
import Derived.Outline
import Derived.StillTailTactics
import Derived.Maps.OwnOps
import Derived.IntWalk
import Derived.RangeFuncNested
import Derived.RangeFuncBound
import Derived.RangeFuncCalls
import Derived.RangeFuncLeaves
import Derived.Shelf.Abstract
import Derived.Shelf.RegionOpen
import Derived.OwnWalkIn
import Derived.TacticsInMore
import Derived.LoopNIn
import Derived.LoopIn
import Derived.RangeFuncBox
import Derived.Maps.AppendAt
import Derived.Lib.BufferMore
import Derived.Laws.CopyRow
import Derived.LoopTactic
import Derived.Sort.Grow
section
namespace Go.Proofs.YtdheokololpnbaaGreatDoor.PWalk
open Go.RowKit Go.Proofs.YtdheokololpnbaaGreatDoorW.PrintWords Go.Proofs.YtdheokololpnbaaGreatDoorW.PrintLast Go.Proofs.YtdheokololpnbaaGreatDoorW.PrintMore
set_option linter.unusedVariables false
set_option linter.unusedSimpArgs false
section
open Go.Shelf
attribute [local go_sem] Oper.semAt_some
abbrev Dot := S33
abbrev Node := S35
abbrev vDot (x : Dot) : Value := .agg #[.int .i64 x.f0, .int .i64 x.f1]
abbrev vNode (x : Node) : Value := .agg #[.int .i64 x.f0.f0, .int .i64 x.f0.f1, .int .i64 x.f1.f0, .int .i64 x.f1.f1, .int .i64 x.f2, .int .i32 x.f3]
theorem Dot.ext' {a b : Dot} (h0 : a.f0 = b.f0) (h1 : a.f1 = b.f1) : a = b := by cases a; cases b; simp_all
theorem Dot.ext_iff' {a b : Dot} : a = b ↔ a.f0 = b.f0 ∧ a.f1 = b.f1 := ⟨fun h => by subst h; exact ⟨rfl, rfl⟩, fun h => Dot.ext' h.1 h.2⟩
instance : DecidableEq Dot := fun a b => decidable_of_iff (a.f0 = b.f0 ∧ a.f1 = b.f1) Dot.ext_iff'.symm
theorem Node.ext_iff' {a b : Node} : a = b ↔ a.f0 = b.f0 ∧ a.f1 = b.f1 ∧ a.f2 = b.f2 ∧ a.f3 = b.f3 := ⟨fun h => by subst h; exact ⟨rfl, rfl, rfl, rfl⟩, fun h => by cases a; cases b; simp_all⟩
instance : DecidableEq Node := fun a b => decidable_of_iff (a.f0 = b.f0 ∧ a.f1 = b.f1 ∧ a.f2 = b.f2 ∧ a.f3 = b.f3) Node.ext_iff'.symm
/-- A dot of a node; the root's; a rune of a text; a node that is allowed. -/
def dotOk (d : Dot) : Bool := decide (1 ≤ d.f0 ∧ d.f0 ≤ 64 ∧ 1 ≤ d.f1 ∧ d.f1 ≤ 4294967295)
def dotRoot (d : Dot) : Bool := decide (d.f0 = 0 ∧ d.f1 = 0)
def runeOk (r : Int) : Bool := decide (r ≠ 0 ∧ ((0 ≤ r ∧ r < 55296) ∨ (57343 < r ∧ r ≤ 1114111)))
def nodeOk (x : Node) : Bool := decide (dotOk x.f0 = true ∧ (dotRoot x.f1 = true ∨ dotOk x.f1 = true) ∧ x.f1 ≠ x.f0 ∧ 1 ≤ x.f2 ∧ x.f2 ≤ 4611686018427387904 ∧ (x.f3 = 0 ∨ runeOk x.f3 = true))
/-- Before another dot; increasing. -/
def dotLt (a b : Dot) : Bool := decide (a.f1 < b.f1 ∨ (a.f1 = b.f1 ∧ a.f0 < b.f0))
def dotCmp (a b : Dot) : Int := if dotLt a b then -1 else if dotLt b a then 1 else 0
def incB : List Dot → Bool
 | [] => true
 | [_] => true
 | a :: b :: r => dotLt a b && incB (b :: r)
def storeOk (l : List Node) : Bool := l.all nodeOk && incB (l.map (·.f0))
theorem dotCmp_ge (a b : Dot) : (dotCmp a b ≥ 0) ↔ ¬ dotLt a b = true := by
 unfold dotCmp
 by_cases h : dotLt a b = true
 ·
  simp [h]
 ·
  rw [if_neg h]
  constructor
  ·
   exact fun _ => h
  ·
   intro _; split <;> decide
theorem dotLt_irrefl (a : Dot) : dotLt a a = false := by unfold dotLt; simp
theorem dotLt_trans {a b c : Dot} (h : dotLt a b = true) (k : dotLt b c = true) : dotLt a c = true := by
 unfold dotLt at *; simp only [decide_eq_true_eq] at *; omega
theorem dotLt_total {a b : Dot} (h : dotLt a b = false) (k : dotLt b a = false) : a = b := by
 unfold dotLt at *; simp only [decide_eq_false_iff_not] at *; exact Dot.ext' (by omega) (by omega)
theorem blk_new (w : World) (o : Obj) : (w.alloc o).heap[w.heap.size]? = some o := by
 show (w.heap.push o)[w.heap.size]? = some o
 simp
theorem blk_keep {W W' : World} {g : Nat} {o : Obj} (h : W.heap[g]? = some o) (hb : Below W.heap.size W W') : W'.heap[g]? = some o := (hb.block g (blk_lt h)).trans h
theorem below_more {w W W' : World} (h : Below w.heap.size w W) (k : Below W.heap.size W W') : Below w.heap.size w W' := below_then h h.size k
theorem validRune_is (k : Nat) (r : Int) : utf8_ValidRune.f (k + 1) r = some (decide ((0 ≤ r ∧ r < 55296) ∨ (57343 < r ∧ r ≤ 1114111))) := by
 unfold utf8_ValidRune.f utf8_ValidRune.j0
 by_cases h0 : 0 ≤ r <;> by_cases h1 : r < 55296 <;> by_cases h2 : 57343 < r <;> by_cases h3 : r ≤ 1114111 <;> simp [h0, h1, h2, h3] <;> omega
theorem runesValid_is (k : Nat) (r : Int) : runes_Valid.f (k + 1) r = some (runeOk r) := by
 unfold runes_Valid.f runeOk
 rw [validRune_is]
 by_cases h : r = 0 <;> simp [h]
theorem dotValid_is (a b : Int) : dot_Valid.f a b = some (dotOk ⟨a, b⟩) := by
 unfold dot_Valid.f dotOk
 by_cases h0 : a ≥ 1 <;> by_cases h1 : a ≤ 64 <;> by_cases h2 : b ≥ 1 <;> by_cases h3 : b ≤ 4294967295 <;> simp [h0, h1, h2, h3] <;> omega
theorem dotRoot_is (a b : Int) : dot_Root.f a b = some (dotRoot ⟨a, b⟩) := by
 unfold dot_Root.f dotRoot
 by_cases h0 : a = 0 <;> by_cases h1 : b = 0 <;> simp [h0, h1]
theorem nodeValid_is (k : Nat) (x : Node) : node_Valid.f (k + 1) x.f0.f0 x.f0.f1 x.f1.f0 x.f1.f1 x.f2 x.f3 = some (nodeOk x) := by
 unfold node_Valid.f nodeOk
 simp only [dotValid_is, dotRoot_is, runesValid_is, node_Dead.f, Option.bind_some]
 have e : ((!(x.f1.f0 == x.f0.f0) || !(x.f1.f1 == x.f0.f1)) = true) ↔ x.f1 ≠ x.f0 := by
  rw [Ne, Dot.ext_iff']; simp; omega
 simp only [e]
 have e1 : x.f2 ≥ 1 ↔ 1 ≤ x.f2 := Iff.rfl
 by_cases h1 : dotOk x.f0 = true
 ·
  by_cases h4 : x.f1 ≠ x.f0
  ·
   by_cases h5 : 1 ≤ x.f2
   ·
    by_cases h6 : x.f2 ≤ 4611686018427387904
    ·
     cases h2 : dotRoot x.f1 <;> cases h3 : dotOk x.f1 <;> cases h8 : runeOk x.f3 <;> by_cases h7 : x.f3 = 0 <;> simp [h1, h2, h3, h4, h5, h6, h7, h8]
    ·
     cases h2 : dotRoot x.f1 <;> cases h3 : dotOk x.f1 <;> simp [h1, h2, h3, h4, h5, h6]
   ·
    cases h2 : dotRoot x.f1 <;> cases h3 : dotOk x.f1 <;> simp [h1, h2, h3, h4, h5]
  ·
   cases h2 : dotRoot x.f1 <;> cases h3 : dotOk x.f1 <;> simp [h1, h2, h3, h4]
 ·
  simp [h1]
theorem cmpCompare_is (a b : Int) : cmp_Compare_int.f a b = some (if a < b then -1 else if b < a then 1 else 0) := by
 unfold cmp_Compare_int.f cmp_isNaN_int.f
 simp
 split
 ·
  rfl
 ·
  split <;> rfl
theorem dotCompare_is (k : Nat) (a b : Dot) : dot_Compare.f (k + 3) a.f0 a.f1 b.f0 b.f1 = some (dotCmp a b) := by
 unfold dot_Compare.f
 simp only [cmpCompare_is, Option.bind_some]
 unfold cmp_Or_int.f dotCmp dotLt
 have w1 : wrap64 1 = 1 := by unfold wrap64; omega
 have w2 : wrap64 (1 + 1) = 2 := by unfold wrap64; omega
 have w3 : wrap64 2 = 2 := by unfold wrap64; omega
 rcases Int.lt_trichotomy a.f1 b.f1 with h | h | h
 ·
  have h' : ¬ b.f1 < a.f1 := by omega
  simp [h, cmp_Or_int.l0, rd]
 ·
  rcases Int.lt_trichotomy a.f0 b.f0 with g | g | g
  ·
   simp [h, g, cmp_Or_int.l0, rd, w1]
  ·
   simp [h, g, cmp_Or_int.l0, rd, w1, w2, w3]
  ·
   have g' : ¬ a.f0 < b.f0 := by omega
   simp [h, g, g', cmp_Or_int.l0, rd, w1]
 ·
  have h' : ¬ a.f1 < b.f1 := by omega
  have h2 : ¬ a.f1 = b.f1 := by omega
  have h3 : ¬ b.f1 = a.f1 := by omega
  simp [h, h', h2, h3, cmp_Or_int.l0, rd]
theorem wrap_one {i : Int} {n : Nat} (h0 : -1 ≤ i) (h : i < (n : Int)) (hn : n ≤ 9223372036854775806) : wrap64 (i + 1) = i + 1 := by
 unfold wrap64; omega
theorem wrap_pred {i : Int} (h0 : 0 ≤ i) (h : i ≤ 9223372036854775806) : wrap64 (i - 1) = i - 1 := by
 unfold wrap64; omega
theorem node_at {w wr : World} {A : Option Addr} {n : Nat} {xs : List Node} (h : Kd.C k35 w A n xs) (hb : Below w.heap.size w wr) (k : Nat) (x : Node) (hk : xs[k]? = some x) :
  ∃ ad, A = some ad ∧ wr.cell? (ad.add (k * 6)) = some (.int .i64 x.f0.f0) ∧ wr.cell? ⟨(ad.add (k * 6)).block, (ad.add (k * 6)).off + 1, none⟩ = some (.int .i64 x.f0.f1) ∧ wr.cell? ⟨(ad.add (k * 6)).block, (ad.add (k * 6)).off + 2, none⟩ = some (.int .i64 x.f1.f0) ∧ wr.cell? ⟨(ad.add (k * 6)).block, (ad.add (k * 6)).off + 3, none⟩ = some (.int .i64 x.f1.f1) ∧ wr.cell? ⟨(ad.add (k * 6)).block, (ad.add (k * 6)).off + 4, none⟩ = some (.int .i64 x.f2) ∧ wr.cell? ⟨(ad.add (k * 6)).block, (ad.add (k * 6)).off + 5, none⟩ = some (.int .i32 x.f3) := by
 have hl := Kd.C_len h
 have hlt := (List.getElem?_eq_some_iff.1 hk).1
 obtain ⟨ad, e, h0, h1, h2, h3, h4, h5⟩ := at_T35 h (k : Int) (by omega) (by omega)
 have hd : rd_T35 xs (k : Int) = x := by simp [rd_T35, hk]
 rw [hd] at h0 h1 h2 h3 h4 h5
 simp only [Int.toNat_natCast] at h0 h1 h2 h3 h4 h5
 exact ⟨ad, e, pw_cell_below hb h0, pw_cell_below hb h1, pw_cell_below hb h2, pw_cell_below hb h3, pw_cell_below hb h4, pw_cell_below hb h5⟩
def idxFrom (p : Node → Bool) (l : List Node) : Int := match l.findIdx? p with | some i => (i : Int) | none => -1
theorem idxFrom_at {p : Node → Bool} {l : List Node} {k : Nat} {x : Node} (hk : l[k]? = some x) (hx : p x = true) (hno : ∀ j y, j < k → l[j]? = some y → p y = false) : idxFrom p l = k := by
 unfold idxFrom
 rw [List.findIdx?_eq_some_iff_getElem.2 ⟨(List.getElem?_eq_some_iff.1 hk).1, by rw [(List.getElem?_eq_some_iff.1 hk).2]; exact hx, fun j hj => by rw [hno j _ hj (List.getElem?_eq_getElem _)]; simp⟩]
theorem idxFrom_none {p : Node → Bool} {l : List Node} (hno : ∀ j y, j < l.length → l[j]? = some y → p y = false) : idxFrom p l = -1 := by
 unfold idxFrom
 rw [List.findIdx?_eq_none_iff.2 fun x hx => by
  obtain ⟨j, hj⟩ := List.getElem?_of_mem hx
  exact hno j x (List.getElem?_eq_some_iff.1 hj).1 hj]
theorem no_step {p : Node → Bool} {l : List Node} {k : Nat} {x : Node} (hk : l[k]? = some x) (hx : p x = false) (hno : ∀ j y, j < k → l[j]? = some y → p y = false) : ∀ j y, j < k + 1 → l[j]? = some y → p y = false := by
 intro j y hj hy
 rcases Nat.lt_succ_iff_lt_or_eq.1 hj with h | h
 ·
  exact hno j y h hy
 ·
  subst h; rw [hk] at hy; cases hy; exact hx
set_option maxHeartbeats 400000 in
theorem IndexFuncNode.calls (p : Node → Bool) (fn : Nat) (caps : Array Value) (A0 : Option Addr) (c0 : Nat) (l0 : List Node) (w : World) (hr0 : Kd.C k35 w A0 l0.length l0) (hc0 : l0.length ≤ c0)
  (hcall : ∀ args W, (callFunc fn args).run Tryz.prog W = .ok (.enter fn args) W)
  (hp : ∀ x W, Below w.heap.size w W → Calls Tryz.prog fn (#[vNode x] ++ caps) W fun e W' => e = .returned (.bool (p x)) ∧ Below W.heap.size W W') :
  Calls Tryz.prog 48 #[.slice A0 l0.length c0, .func (.func fn) #[] caps] w fun e w' => e = .returned (.int .i64 (idxFrom p l0)) ∧ Below w.heap.size w w' := by
 have hm := Kd.C_max hr0
 have hu := Tryz.underlying35
 have HR := Aside0.mk hr0
 have HP := Aside0.mk hp
 have HC := Aside0.mk hc0
 clear hr0 hp hc0
 go_enter Tryz.func48, Tryz.ntmps48
 go_wp2
 go_loopw [5, 8] (fun _ i wr => ∃ k : Nat, k ≤ l0.length ∧ i = .int .i64 k ∧ Aside0 (∀ j y, j < k → l0[j]? = some y → p y = false) ∧ Aside0 (Below w.heap.size w wr)) (fun _ i _ => l0.length - (intOf i).toNat)
 case atStart => exact ⟨0, Nat.zero_le _, rfl, ⟨fun j y hj => absurd hj (Nat.not_lt_zero _)⟩, ⟨Below.refl _ _⟩⟩
 case round =>
  obtain ⟨k, hk, rfl, hno, hb⟩ := hrel
  by_cases hlt : k < l0.length
  ·
   obtain ⟨x, hx⟩ : ∃ x, Aside0 (l0[k]? = some x) := ⟨_, ⟨List.getElem?_eq_getElem hlt⟩⟩
   obtain ⟨ad, e, h0, h1, h2, h3, h4, h5⟩ := node_at HR.out hb.out k x hx.out
   subst e
   cases hpx : p x with
   | true =>
    have HX := Aside0.mk hpx
    clear hpx
    go_wp2
    refine (HP.out x _ hb.out).mono ?_
    rintro e W' ⟨rfl, hb2⟩
    rw [HX.out]
    go_wp2
    go_ret
    exact ⟨by rw [idxFrom_at hx.out HX.out hno.out]; rfl, below_then hb.out hb.out.size hb2⟩
   | false =>
    have HX := Aside0.mk hpx
    clear hpx
    go_wp2
    refine (HP.out x _ hb.out).mono ?_
    rintro e W' ⟨rfl, hb2⟩
    rw [HX.out]
    go_wp2
    go_roundw
    case rel => exact ⟨k + 1, by omega, by go_num, ⟨no_step hx.out HX.out hno.out⟩, ⟨below_then hb.out hb.out.size hb2⟩⟩
    case measure => simp [intOf]; omega
  ·
   go_wp2
   go_ret
   obtain rfl : k = l0.length := by omega
   exact ⟨by rw [idxFrom_none hno.out]; rfl, hb.out⟩
set_option maxHeartbeats 400000 in
theorem ContainsFuncNode.calls (p : Node → Bool) (fn : Nat) (caps : Array Value) (A0 : Option Addr) (c0 : Nat) (l0 : List Node) (w : World) (hr0 : Kd.C k35 w A0 l0.length l0) (hc0 : l0.length ≤ c0)
  (hcall : ∀ args W, (callFunc fn args).run Tryz.prog W = .ok (.enter fn args) W)
  (hp : ∀ x W, Below w.heap.size w W → Calls Tryz.prog fn (#[vNode x] ++ caps) W fun e W' => e = .returned (.bool (p x)) ∧ Below W.heap.size W W') :
  Calls Tryz.prog 24 #[.slice A0 l0.length c0, .func (.func fn) #[] caps] w fun e w' => e = .returned (.bool (l0.any p)) ∧ Below w.heap.size w w' := by
 have HI := Aside0.mk (IndexFuncNode.calls p fn caps A0 c0 l0 w hr0 hc0 hcall hp)
 clear hr0 hc0 hp hcall
 go_enter Tryz.func24, Tryz.ntmps24
 go_wp2_with fail
 refine HI.out.mono ?_
 rintro e W' ⟨rfl, hb⟩
 have hi : decide (idxFrom p l0 ≥ 0) = l0.any p := by
  unfold idxFrom
  cases h : l0.findIdx? p with
  | none => simp [List.findIdx?_eq_none_iff] at h; simp; exact h
  | some i => simp; exact ⟨_, List.getElem_mem (List.findIdx?_eq_some_iff_getElem.1 h).1, (List.findIdx?_eq_some_iff_getElem.1 h).2.1⟩
 have HI2 := Aside0.mk hi
 clear hi
 go_wp2
 go_ret
 exact ⟨by rw [← HI2.out]; rfl, hb⟩
theorem invalid_is (k : Nat) (x : Node) : store_invalid.f (k + 1) x.f0.f0 x.f0.f1 x.f1.f0 x.f1.f1 x.f2 x.f3 = some (!nodeOk x) := by
 unfold store_invalid.f
 rw [nodeValid_is]; rfl
theorem incB_drop_cons (l : List Dot) (i : Nat) (h : i + 1 < l.length) : incB (l.drop i) = (dotLt l[i] l[i + 1] && incB (l.drop (i + 1))) := by
 rw [List.drop_eq_getElem_cons (by omega), List.drop_eq_getElem_cons (i := i + 1) (by omega)]; rfl
theorem isSet_from (l : List Dot) (hl : l.length ≤ 9223372036854775806) (d : Nat) : ∀ (k i : Nat), i + d = l.length → d + 3 < k → dot_IsSet.l0 k l ((i : Int) + 1) = some (incB (l.drop i)) := by
 induction d with
 | zero =>
  intro k i hd hk
  obtain ⟨k, rfl⟩ : ∃ m, k = m + 1 := ⟨k - 1, by omega⟩
  simp only [dot_IsSet.l0]
  rw [if_neg (by omega), List.drop_of_length_le (by omega)]; rfl
 | succ d ih =>
  intro k i hd hk
  obtain ⟨k, rfl⟩ : ∃ m, k = m + 1 := ⟨k - 1, by omega⟩
  simp only [dot_IsSet.l0]
  by_cases hlt : i + 1 < l.length
  ·
   have hw : wrap64 ((i : Int) + 1 - 1) = (i : Int) := by rw [wrap_pred (by omega) (by omega)]; omega
   have hw2 : wrap64 ((i : Int) + 1 + 1) = ((i + 1 : Nat) : Int) + 1 := by rw [wrap_one (n := l.length) (by omega) (by omega) (by omega)]; omega
   rw [if_pos (by omega), hw, if_pos (by omega), if_pos (by omega), if_pos (by omega)]
   obtain ⟨k, rfl⟩ : ∃ m, k = m + 3 := ⟨k - 3, by omega⟩
   have e1 : rd_T33 l (i : Int) = l[i] := by simp [rd_T33, show i < l.length by omega]
   have e2 : rd_T33 l ((i : Int) + 1) = l[i + 1] := by
    have : ((i : Int) + 1).toNat = i + 1 := by omega
    simp [rd_T33, this, hlt]
   rw [e1, e2, dotCompare_is, hw2, incB_drop_cons l i hlt]
   simp only [Option.bind_some]
   rw [ih (k + 3) (i + 1) (by omega) (by omega)]
   cases h : dotLt l[i] l[i + 1]
   ·
    rw [if_pos ((dotCmp_ge _ _).2 (by simp [h]))]; rfl
   ·
    rw [if_neg (fun hg => (dotCmp_ge _ _).1 hg h)]; simp
  ·
   rw [if_neg (by omega)]
   have : l.drop i = [l[i]'(by omega)] := by
    rw [List.drop_eq_getElem_cons (by omega), List.drop_of_length_le (by omega)]
   rw [this]; rfl
theorem isSet_is (l : List Dot) (hl : l.length ≤ 1000000) : dot_IsSet.f 1000005 l = some (incB l) := by
 have h := isSet_from l (by omega) l.length 1000005 0 (by omega) (by omega)
 exact h
theorem dots_from (l : List Node) (hl : l.length ≤ 1000000) (d : Nat) : ∀ (k i : Nat), i + d = l.length → d < k → store_dots.l0 k ((l.take i).map (·.f0)) l (l.length : Int) (i : Int) = some (l.map (·.f0)) := by
 induction d with
 | zero =>
  intro k i hd hk
  obtain ⟨k, rfl⟩ : ∃ m, k = m + 1 := ⟨k - 1, by omega⟩
  simp only [store_dots.l0]
  rw [if_neg (by omega), List.take_of_length_le (by omega)]
 | succ d ih =>
  intro k i hd hk
  obtain ⟨k, rfl⟩ : ∃ m, k = m + 1 := ⟨k - 1, by omega⟩
  simp only [store_dots.l0]
  rw [if_pos (by omega), if_pos (by omega), if_pos (by omega), if_pos (by simp; omega), wrap_one (n := l.length) (by omega) (by omega) (by omega)]
  have e : rd_T35 l (i : Int) = l[i]'(by omega) := by simp [rd_T35, show i < l.length by omega]
  have h := ih k (i + 1) (by omega) (by omega)
  rw [List.take_succ_eq_append_getElem (by omega), List.map_append] at h
  rw [e]
  exact h
theorem dots_is (l : List Node) (hl : l.length ≤ 1000000) : store_dots.f 1000001 l = some (l.map (·.f0)) := by
 have h := dots_from l hl l.length 1000001 0 (by omega) (by omega)
 exact h
def store_Valid.f (l0 : List Node) : Option Bool := if l0.length ≤ 1000000 then some (storeOk l0) else none
set_option maxHeartbeats 400000 in
set_option maxRecDepth 100000 in
theorem store_Valid.calls (A0 : Option Addr) (c0 : Nat) (l0 : List Node) (r : Bool) (w : World) (hr0 : Kd.C k35 w A0 l0.length l0) (hc0 : l0.length ≤ c0) (h : store_Valid.f l0 = some r) :
  Calls Tryz.prog 8 #[.slice A0 l0.length c0] w fun e w' => e = .returned (.bool r) ∧ Below w.heap.size w w' := by
 unfold store_Valid.f at h
 by_cases hl : l0.length ≤ 1000000
 ·
  rw [if_pos hl] at h
  have hr := Aside0.mk (Option.some.inj h)
  have HR := Aside0.mk hr0
  have HC := Aside0.mk hc0
  have HL := Aside0.mk hl
  clear h hr0 hc0 hl
  go_enter Tryz.func8, Tryz.ntmps8
  go_wp2_with fail
  refine (ContainsFuncNode.calls (fun x => !nodeOk x) 25 #[] A0 c0 l0 _ HR.out HC.out Tryz.call25 (fun x W hW => store_invalid.calls 1 _ _ _ _ _ _ _ W (invalid_is 0 x))).mono ?_
  rintro e W' ⟨rfl, hb⟩
  cases ha : l0.any (fun x => !nodeOk x) with
  | true =>
   have H1 := Aside0.mk ha
   clear ha
   go_wp2_with fail
   go_ret
   refine ⟨?_, hb⟩
   rw [← hr.out, storeOk]
   have : l0.all nodeOk = false := by
    have := H1.out
    rw [List.any_eq_true] at this
    obtain ⟨x, hx, hn⟩ := this
    rw [List.all_eq_false]
    exact ⟨x, hx, by simpa using hn⟩
   rw [this]; rfl
  | false =>
   have H1 := Aside0.mk ha
   clear ha
   go_wp2_with fail
   obtain ⟨ds, Hd⟩ : ∃ ds, Aside0 (ds = l0.map (·.f0)) := ⟨_, ⟨rfl⟩⟩
   refine (store_dots.calls 1000001 A0 c0 l0 ds _ (Kd.C_below HR.out hb) HC.out (by rw [Hd.out]; exact dots_is l0 HL.out)).mono ?_
   rintro e W2 ⟨v2, rfl, ho, hb2⟩
   obtain ⟨A2, c2, rfl, hc2, hr2⟩ := Kd.R_reads ho
   have H2 := Aside0.mk hr2
   have H3 := Aside0.mk hc2
   clear hr2 hc2 ho
   go_wp2_with fail
   refine (dot_IsSet.calls 1000005 _ _ _ _ _ H2.out H3.out (isSet_is ds (by rw [Hd.out, List.length_map]; exact HL.out))).mono ?_
   rintro e W3 ⟨rfl, hb3⟩
   have hall : l0.all nodeOk = true := by
    rw [List.all_eq_true]
    intro x hx
    have := H1.out
    rw [List.any_eq_false] at this
    simpa using this x hx
   have H4 := Aside0.mk hall
   clear hall
   have HB := Aside0.mk (below_then (below_then hb hb.size hb2) (below_then hb hb.size hb2).size hb3)
   cases hi : incB ds with
   | true =>
    have H5 := Aside0.mk hi
    clear hi
    go_wp2_with fail
    go_ret
    exact ⟨by rw [← hr.out, storeOk, H4.out, ← Hd.out, H5.out]; rfl, HB.out⟩
   | false =>
    have H5 := Aside0.mk hi
    clear hi
    go_wp2_with fail
    go_ret
    exact ⟨by rw [← hr.out, storeOk, H4.out, ← Hd.out, H5.out]; rfl, HB.out⟩
 ·
  rw [if_neg hl] at h; cases h
end
end Go.Proofs.YtdheokololpnbaaGreatDoor.PWalk
end
section
namespace Go.Proofs.YtdheokololpnbaaGreatDoor.PWalk
open Go.RowKit Go.Proofs.YtdheokololpnbaaGreatDoorW.PrintWords Go.Proofs.YtdheokololpnbaaGreatDoorW.PrintLast Go.Proofs.YtdheokololpnbaaGreatDoorW.PrintMore
set_option linter.unusedVariables false
set_option linter.unusedSimpArgs false
section
open Go.Shelf
attribute [local go_sem] Oper.semAt_some
theorem info44 : (Tryz.prog.info? 44).map (fun i => (i.zero, i.size, i.bytes)) = some (some (.agg #[(.int .i64 0), (.int .i64 0)]), 2, 16) := by kernel_rfl
theorem info35 : (Tryz.prog.info? 35).map (fun i => (i.zero, i.size, i.bytes)) = some (some (.agg #[(.int .i64 0), (.int .i64 0), (.int .i64 0), (.int .i64 0), (.int .i64 0), (.int .i32 0)]), 6, 48) := by kernel_rfl
set_option maxRecDepth 100000 in
theorem dotKey : MapLaw.MKey (κ := Dot) Tryz.prog 33 vDot where
 check := fun b x w => by
  unfold Instr.checkKey
  go_simp
  rfl
 equal := fun x y w => by
  unfold Op.equal Op.maxDepth
  rw [eqA33]
  congr 1
  rw [Bool.eq_iff_iff]
  simp [Dot.ext_iff']
 desc := ⟨_, Tryz.underlying33, .inl fun x y => rfl⟩
 bits := fun x => by simp [Instr.sameBits]
abbrev vNat (n : Nat) : Value := .int .i64 n
def flawOf (l : List Node) (m : List (Dot × Nat)) (i : Nat) : Int :=
 match l[i]? with
 | none => 0
 | some x =>
  if nodeOk x = false then 1
  else if 0 < i ∧ (match l[i - 1]? with | some p => dotLt p.f0 x.f0 | none => true) = false then 2
  else if dotRoot x.f1 = true then 0
  else match MapLaw.mget m x.f1 with
   | none => 3
   | some k => if (match l[k]? with | some p => decide (x.f2 ≤ p.f2) | none => false) = true then 4 else 0
theorem flawOf_at {l : List Node} {m : List (Dot × Nat)} {i : Nat} {x : Node} (hx : l[i]? = some x) : flawOf l m i =
  (if nodeOk x = false then 1
  else if 0 < i ∧ (match l[i - 1]? with | some p => dotLt p.f0 x.f0 | none => true) = false then 2
  else if dotRoot x.f1 = true then 0
  else match MapLaw.mget m x.f1 with
   | none => 3
   | some k => if (match l[k]? with | some p => decide (x.f2 ≤ p.f2) | none => false) = true then 4 else 0) := by
 unfold flawOf; rw [hx]
set_option maxHeartbeats 1000000 in
set_option maxRecDepth 100000 in
theorem flaw.calls (A0 : Option Addr) (c0 : Nat) (l0 : List Node) (b : Nat) (m : List (Dot × Nat)) (i : Nat) (w : World) (hr0 : Kd.C k35 w A0 l0.length l0) (hc0 : l0.length ≤ c0)
  (hl : l0.length ≤ 1000000) (hm : MapLaw.MapIs vDot vNat w b m) (hb : ∀ d k, MapLaw.mget m d = some k → k < l0.length) (hi : i < l0.length) :
  Calls Tryz.prog 37 #[.slice A0 l0.length c0, .map (some b), .int .i64 i] w fun e w' => e = .returned (.int .i64 (flawOf l0 m i)) ∧ Below w.heap.size w w' := by
 obtain ⟨x, hx⟩ : ∃ x, Aside0 (l0[i]? = some x) := ⟨_, ⟨List.getElem?_eq_getElem hi⟩⟩
 obtain ⟨ad, e, h0, h1, h2, h3, h4, h5⟩ := node_at hr0 (Below.refl _ _) i x hx.out
 subst e
 have HR := Aside0.mk hr0
 have HC := Aside0.mk hc0
 have HM := Aside0.mk hm
 have HB := Aside0.mk hb
 have HF := Aside0.mk (flawOf_at (m := m) hx.out)
 clear hr0 hc0 hm hb
 obtain ⟨q, is, HV, HI⟩ : ∃ (q : Nat) (is : Bool), Aside0 (((MapLaw.mget m x.f1).map vNat).getD (.int .i64 0) = vNat q) ∧ Aside0 ((MapLaw.mget m x.f1).isSome = is ∧ (is = true → MapLaw.mget m x.f1 = some q)) := by
  cases h : MapLaw.mget m x.f1 with
  | none => exact ⟨0, false, ⟨rfl⟩, ⟨rfl, by simp⟩⟩
  | some q => exact ⟨q, true, ⟨rfl⟩, ⟨rfl, fun _ => rfl⟩⟩
 have hu1 := Tryz.underlying33
 have hu2 := Tryz.underlying35
 go_enter Tryz.func37, Tryz.ntmps37
 go_wp2_with (first | (at_lookup; refine MapLaw.wpList_lookup rfl _ _ _ true rfl dotKey Tryz.underlying68 (z := .int .i64 0) Tryz.zeroValue2 x.f1 rfl rfl (HM.out.below ((Below.refl _ _).alloc (Nat.le_refl _) _)) HV.out HI.out.1 ?_) | fail)
 refine (dot_Root.calls _ _ _ _ (dotRoot_is _ _)).mono ?_
 rintro e W1 ⟨rfl, hd1⟩
 have BK1 := Aside0.mk (blk_keep (blk_new w _) hd1)
 have HW1 := Aside0.mk (below_more (below_alloc (Below.refl w.heap.size w) _) hd1)
 clear hd1 h0 h1 h2 h3 h4 h5
 obtain ⟨rt, HRT⟩ : ∃ rt, Aside0 (dotRoot x.f1 = rt) := ⟨_, ⟨rfl⟩⟩
 rw [show dotRoot ⟨x.f1.f0, x.f1.f1⟩ = rt from HRT.out]
 have hc0 : W1.cell? ⟨w.heap.size, 0, none⟩ = _ := (blk_cell BK1.out 0).trans rfl
 have hc1 : W1.cell? ⟨w.heap.size, 1, none⟩ = _ := (blk_cell BK1.out 1).trans rfl
 have hc2 : W1.cell? ⟨w.heap.size, 2, none⟩ = _ := (blk_cell BK1.out 2).trans rfl
 have hc3 : W1.cell? ⟨w.heap.size, 3, none⟩ = _ := (blk_cell BK1.out 3).trans rfl
 have hc4 : W1.cell? ⟨w.heap.size, 4, none⟩ = _ := (blk_cell BK1.out 4).trans rfl
 have hc5 : W1.cell? ⟨w.heap.size, 5, none⟩ = _ := (blk_cell BK1.out 5).trans rfl
 go_wp2_with fail
 refine (node_Valid.calls 1 _ _ _ _ _ _ _ _ (nodeValid_is 0 x)).mono ?_
 rintro e W2 ⟨rfl, hd2⟩
 have BK2 := Aside0.mk (blk_keep BK1.out hd2)
 have HW2 := Aside0.mk (below_more HW1.out hd2)
 clear hd2 hc0 hc1 hc2 hc3 hc4 hc5
 cases hok : nodeOk x with
 | false =>
  have HOK := Aside0.mk hok
  clear hok
  go_wp2
  go_ret
  exact ⟨by rw [HF.out, if_pos HOK.out]; rfl, HW2.out⟩
 | true =>
  have HOK := Aside0.mk hok
  clear hok
  have hc0 : W2.cell? ⟨w.heap.size, 0, none⟩ = _ := (blk_cell BK2.out 0).trans rfl
  have hc1 : W2.cell? ⟨w.heap.size, 1, none⟩ = _ := (blk_cell BK2.out 1).trans rfl
  have hc2 : W2.cell? ⟨w.heap.size, 2, none⟩ = _ := (blk_cell BK2.out 2).trans rfl
  have hc3 : W2.cell? ⟨w.heap.size, 3, none⟩ = _ := (blk_cell BK2.out 3).trans rfl
  have hc4 : W2.cell? ⟨w.heap.size, 4, none⟩ = _ := (blk_cell BK2.out 4).trans rfl
  have hc5 : W2.cell? ⟨w.heap.size, 5, none⟩ = _ := (blk_cell BK2.out 5).trans rfl
  by_cases h0 : 0 < i
  ·
   obtain ⟨p, hp⟩ : ∃ p, Aside0 (l0[i - 1]? = some p) := ⟨_, ⟨List.getElem?_eq_getElem (by omega)⟩⟩
   obtain ⟨ad2, e2, g0, g1, g2, g3, g4, g5⟩ := node_at HR.out HW2.out (i - 1) p hp.out
   cases e2
   have hb0 : decide ((i : Int) > 0) = true := by simp; omega
   have hb2 : i - 1 < l0.length := by omega
   have hb1 : IntKind.i64.wrap ((i : Int) - 1) = ((i - 1 : Nat) : Int) := by rw [IntWalk.i64_in _ (by omega)]; omega
   go_wp2_with fail
   go_still_tail 11, (by kernel_rfl)
   change wpList _ _ _ _ _ W2.drew
   go_wp2_with fail
   refine (dot_Compare.calls 3 _ _ _ _ _ _ (dotCompare_is 0 p.f0 x.f0)).mono ?_
   rintro e W3 ⟨rfl, hd3⟩
   have BK3 := Aside0.mk (blk_keep (blk_drew BK2.out) hd3)
   have HW3 := Aside0.mk (below_more HW2.out.drew hd3)
   clear hd3 hc0 hc1 hc2 hc3 hc4 hc5 g0 g1 g2 g3 g4 g5 hb1
   cases hlt : dotLt p.f0 x.f0 with
   | false =>
    have hge : decide (dotCmp p.f0 x.f0 ≥ 0) = true := decide_eq_true ((dotCmp_ge _ _).2 (by simp [hlt]))
    have HLT := Aside0.mk hlt
    clear hlt
    go_wp2
    go_ret
    exact ⟨by rw [HF.out, if_neg (by rw [HOK.out]; simp), if_pos ⟨h0, by rw [hp.out]; exact HLT.out⟩]; rfl, (by repeat (first | exact HW3.out | apply pw_below_drewN))⟩
   | true =>
    have hge : decide (dotCmp p.f0 x.f0 ≥ 0) = false := decide_eq_false (fun h => (dotCmp_ge _ _).1 h hlt)
    have NOTLT : Aside0 (¬ (0 < i ∧ (match l0[i - 1]? with | some p => dotLt p.f0 x.f0 | none => true) = false)) := ⟨by rw [hp.out]; simp [hlt]⟩
    clear hlt
    have hc0 : W3.cell? ⟨w.heap.size, 0, none⟩ = _ := (blk_cell BK3.out 0).trans rfl
    have hc4 : W3.cell? ⟨w.heap.size, 4, none⟩ = _ := (blk_cell BK3.out 4).trans rfl
    cases hrt : rt with
    | true =>
     have HRT2 : Aside0 (dotRoot x.f1 = true) := ⟨HRT.out.trans hrt⟩
     subst hrt
     go_wp2
     go_quiet (fail)
     go_wp2
     go_ret
     exact ⟨by rw [HF.out, if_neg (by rw [HOK.out]; simp), if_neg NOTLT.out, if_pos HRT2.out]; rfl, (by repeat (first | exact HW3.out | apply pw_below_drewN))⟩
    | false =>
     have HRT2 : Aside0 (¬ dotRoot x.f1 = true) := ⟨by rw [HRT.out, hrt]; simp⟩
     subst hrt
     cases his : is with
     | false =>
      have HNO : Aside0 (MapLaw.mget m x.f1 = none) := ⟨by have := HI.out.1; rw [his] at this; simpa using this⟩
      subst his
      go_wp2
      go_ret
      exact ⟨by rw [HF.out, if_neg (by rw [HOK.out]; simp), if_neg NOTLT.out, if_neg HRT2.out, HNO.out]; rfl, (by repeat (first | exact HW3.out | apply pw_below_drewN))⟩
     | true =>
      have HG : Aside0 (MapLaw.mget m x.f1 = some q) := ⟨HI.out.2 his⟩
      subst his
      have hq := HB.out _ _ HG.out
      obtain ⟨y, hy⟩ : ∃ y, Aside0 (l0[q]? = some y) := ⟨_, ⟨List.getElem?_eq_getElem hq⟩⟩
      obtain ⟨ad3, e3, f0, f1, f2, f3, f4, f5⟩ := node_at HR.out HW3.out q y hy.out
      cases e3
      cases hcmp : decide (y.f2 ≥ x.f2) with
      | true =>
       have HC2 := Aside0.mk hcmp
       go_wp2
       go_quiet (fail)
       go_wp2
       go_ret
       exact ⟨by rw [HF.out, if_neg (by rw [HOK.out]; simp), if_neg NOTLT.out, if_neg HRT2.out, HG.out]; simp only [hy.out]; rw [if_pos (by simpa using HC2.out)]; rfl, (by repeat (first | exact HW3.out | apply pw_below_drewN))⟩
      | false =>
       have HC2 := Aside0.mk hcmp
       go_wp2
       go_quiet (fail)
       go_wp2
       go_ret
       exact ⟨by rw [HF.out, if_neg (by rw [HOK.out]; simp), if_neg NOTLT.out, if_neg HRT2.out, HG.out]; simp only [hy.out]; rw [if_neg (by simpa using HC2.out)]; rfl, (by repeat (first | exact HW3.out | apply pw_below_drewN))⟩

  ·
   have hb0 : decide ((i : Int) > 0) = false := by simp; omega
   have NOTLT : Aside0 (¬ (0 < i ∧ (match l0[i - 1]? with | some p => dotLt p.f0 x.f0 | none => true) = false)) := ⟨fun h => h0 h.1⟩
   go_wp2_with fail
   go_quiet (fail)
   cases hrt : rt with
   | true =>
    have HRT2 : Aside0 (dotRoot x.f1 = true) := ⟨HRT.out.trans hrt⟩
    subst hrt
    go_wp2
    go_quiet (fail)
    go_wp2
    go_ret
    exact ⟨by rw [HF.out, if_neg (by rw [HOK.out]; simp), if_neg NOTLT.out, if_pos HRT2.out]; rfl, (by repeat (first | exact HW2.out | apply pw_below_drewN))⟩
   | false =>
    have HRT2 : Aside0 (¬ dotRoot x.f1 = true) := ⟨by rw [HRT.out, hrt]; simp⟩
    subst hrt
    cases his : is with
    | false =>
     have HNO : Aside0 (MapLaw.mget m x.f1 = none) := ⟨by have := HI.out.1; rw [his] at this; simpa using this⟩
     subst his
     go_wp2
     go_ret
     exact ⟨by rw [HF.out, if_neg (by rw [HOK.out]; simp), if_neg NOTLT.out, if_neg HRT2.out, HNO.out]; rfl, (by repeat (first | exact HW2.out | apply pw_below_drewN))⟩
    | true =>
     have HG : Aside0 (MapLaw.mget m x.f1 = some q) := ⟨HI.out.2 his⟩
     subst his
     have hq := HB.out _ _ HG.out
     obtain ⟨y, hy⟩ : ∃ y, Aside0 (l0[q]? = some y) := ⟨_, ⟨List.getElem?_eq_getElem hq⟩⟩
     obtain ⟨ad3, e3, f0, f1, f2, f3, f4, f5⟩ := node_at HR.out HW2.out q y hy.out
     cases e3
     cases hcmp : decide (y.f2 ≥ x.f2) with
     | true =>
      have HC2 := Aside0.mk hcmp
      go_wp2
      go_quiet (fail)
      go_wp2
      go_ret
      exact ⟨by rw [HF.out, if_neg (by rw [HOK.out]; simp), if_neg NOTLT.out, if_neg HRT2.out, HG.out]; simp only [hy.out]; rw [if_pos (by simpa using HC2.out)]; rfl, (by repeat (first | exact HW2.out | apply pw_below_drewN))⟩
     | false =>
      have HC2 := Aside0.mk hcmp
      go_wp2
      go_quiet (fail)
      go_wp2
      go_ret
      exact ⟨by rw [HF.out, if_neg (by rw [HOK.out]; simp), if_neg NOTLT.out, if_neg HRT2.out, HG.out]; simp only [hy.out]; rw [if_neg (by simpa using HC2.out)]; rfl, (by repeat (first | exact HW2.out | apply pw_below_drewN))⟩
/-- Blocks below n are as they were, but for those of E. -/
def KpE (n : Nat) (E : Nat → Prop) (W W' : World) : Prop := W.heap.size ≤ W'.heap.size ∧ ∀ i, i < n → ¬ E i → W'.heap[i]? = W.heap[i]?
theorem KpE.refl (n : Nat) (E : Nat → Prop) (W : World) : KpE n E W W := ⟨Nat.le_refl _, fun _ _ _ => rfl⟩
theorem KpE.trans {n : Nat} {E : Nat → Prop} {A B C : World} (h : KpE n E A B) (k : KpE n E B C) : KpE n E A C := ⟨Nat.le_trans h.1 k.1, fun i hi he => (k.2 i hi he).trans (h.2 i hi he)⟩
theorem KpE.below {n : Nat} {E : Nat → Prop} {W W' : World} (h : Below n W W') : KpE n E W W' := ⟨h.size, fun i hi _ => h.block i hi⟩
theorem KpE.grown {n : Nat} {E : Nat → Prop} {W W' : World} {row : Option Nat} (h : W.grownBy W' row) (hr : ∀ r, row = some r → E r) (hn : n ≤ W.heap.size) : KpE n E W W' :=
 ⟨h.size, fun i hi he => h.block i (by omega) (fun e => he (hr i e.symm))⟩
theorem KpE.cell {n : Nat} {E : Nat → Prop} {W W' : World} (h : KpE n E W W') {p : Addr} (hp : p.block < n) (he : ¬ E p.block) {v : Value} (hc : W.cell? p = some v) : W'.cell? p = some v := by
 rw [← hc]
 exact World.cell?_of_block (w := W) (h.2 _ hp he)
theorem KpE.put {n m : Nat} {E : Nat → Prop} (hn : n ≤ m) (W : World) (l : Nat) (o o' : Obj) (hl : m ≤ l) : KpE n E W (W.putObj l o') :=
 ⟨by simp [World.putObj], fun i hi _ => World.putObj_heap_other (by omega)⟩
/-- The elements with their indices, backwards. -/
def bk {α : Type} (l : List α) : List (Nat × α) := (l.zipIdx.map fun p => (p.2, p.1)).reverse
theorem bk_length {α : Type} (l : List α) : (bk l).length = l.length := by simp [bk]
theorem bk_get {α : Type} (l : List α) (k : Nat) (hk : k < l.length) : (bk l)[k]? = some (l.length - 1 - k, l[l.length - 1 - k]'(by omega)) := by
 unfold bk
 rw [List.getElem?_reverse (by simpa using hk)]
 simp only [List.length_map, List.length_zipIdx, List.getElem?_map, List.getElem?_zipIdx, Nat.zero_add]
 rw [List.getElem?_eq_getElem (by omega)]; rfl
theorem bk_take_succ {α : Type} (l : List α) (k : Nat) (hk : k < l.length) : (bk l).take (k + 1) = (bk l).take k ++ [(l.length - 1 - k, l[l.length - 1 - k]'(by omega))] := by
 have h := bk_get l k hk
 have hb : k < (bk l).length := by rw [bk_length]; exact hk
 rw [List.getElem?_eq_getElem hb] at h
 rw [List.take_succ_eq_append_getElem hb, Option.some.inj h]
theorem calls_of_wp_m {P : Program} {f : FuncId} {fn : Func} {c : Code} {args : Array Value} {w : World} {R : Ending → World → Prop} (hf : P.funcs[f]? = some fn) (hb : fn.body = some c)
  (h : c.wp P (bodyPostM Fence.wide 9 P fn R) { tmps := args ++ Array.replicate (fn.ntmps - args.size) undef, defers := [] } w) : Calls P f args w R :=
 (callsIn_wide (n := 9)).1 (callsIn_of_wp_marks hf hb trivial (wpIn_wide.2 h) rfl)
theorem MapLaw.MapIs.ownFrom {κ β γ : Type} {enc : κ → Value} {val : β → Value} {b B : Nat} {m : γ → List (κ × β)} (hb : b < B) : OwnFrom B (fun s W => MapLaw.MapIs enc val W b (m s)) :=
 fun s W W' row hs hg hr => hs.same (hg.block b hs.lt (fun e => by have := (hr b e.symm).1; omega))
theorem blk_own {γ : Type} {g t B : Nat} {cs : γ → Array Value} : OwnFrom B (fun s W => W.heap[g]? = some (.cells (cs s) t (0, 0))) :=
 fun s W W' row hs hg hr => (hg.block g (blk_lt hs) (fun e => by obtain ⟨_, o, ho, hc⟩ := hr g e.symm; rw [hs] at ho; cases ho; cases hc)).trans hs
theorem R_putObj {α : Type} {d : Kd α} {e base D : Nat} {ok : Nat → Prop} {w : World} {v : Value} {xs : List α} {o : Obj} (h : d.R e w base ok v xs) (hD : w.heap[D]? = some o) (hc : o.isCells = false) (o' : Obj) : d.R e (w.putObj D o') base ok v xs :=
 Kd.R_mono (Kd.R_grown (Kd.R_bound h) (grownBy_putObj' w D o') (fun k hk e => by cases e; obtain ⟨_, _, _, q, _, cells, hh⟩ := hk; rw [hD] at hh; cases hh; cases hc)) (fun _ hk => hk.1)
theorem R_apart_obj {α : Type} {d : Kd α} {e base g : Nat} {ok : Nat → Prop} {w : World} {v : Value} {xs : List α} {o : Obj} (h : d.R e w base ok v xs) (hg : w.heap[g]? = some o) (ho : ∀ cells, o ≠ .cells cells e (0, 0)) : some g ≠ v.ownBlock :=
 fun e' => by obtain ⟨cells, hh⟩ := Kd.R_typed h g e'.symm; rw [hg] at hh; exact ho _ (Option.some.inj hh)
theorem below_putObj {w W : World} (h : Below w.heap.size w W) {D : Nat} (hD : w.heap.size ≤ D) (o' : Obj) : Below w.heap.size w (W.putObj D o') :=
 h.grown (grownBy_putObj' W D o') h.size (fun k e => by cases e; exact hD)
def mkMark (D : Nat) : Deferred := { target := .collected D, args := #[] }
def Marks (n0 : Nat) (ds : List Deferred) (W : World) : Prop := ∃ Ds : List Nat, ds = Ds.map mkMark ∧ Ds.Nodup ∧ ∀ D ∈ Ds, n0 ≤ D ∧ W.heap[D]? = some (.deferred (some []))
structure OnlyMarks (n0 : Nat) (W W' : World) : Prop where
 os : W'.os = W.os
 tape : W'.tape = W.tape
 output : W'.output = W.output
 size : W'.heap.size = W.heap.size
 block : ∀ k, (k < n0 ∨ ∀ d, W.heap[k]? ≠ some (.deferred d)) → W'.heap[k]? = W.heap[k]?
theorem OnlyMarks.refl (n0 : Nat) (W : World) : OnlyMarks n0 W W := ⟨rfl, rfl, rfl, rfl, fun _ _ => rfl⟩
theorem OnlyMarks.step {n0 D : Nat} {W W' : World} (hD : n0 ≤ D) (hW : W.heap[D]? = some (.deferred (some []))) (h : OnlyMarks n0 (W.putObj D (.deferred none)) W') : OnlyMarks n0 W W' :=
 ⟨h.os, h.tape, h.output, by rw [h.size]; simp, fun k hk => by
  have hne : k ≠ D := by
   rcases hk with hk | hk
   ·
    omega
   ·
    intro e; subst e; exact hk _ hW
  have h1 : (W.putObj D (.deferred none)).heap[k]? = W.heap[k]? := World.putObj_heap_other hne
  exact (h.block k (hk.imp_right fun h2 d => by rw [h1]; exact h2 d)).trans h1⟩
theorem Marks.nil (n0 : Nat) (W : World) : Marks n0 [] W := ⟨[], rfl, List.nodup_nil, by simp⟩
theorem Marks.keep {n0 : Nat} {ds : List Deferred} {W W' : World} (h : Marks n0 ds W) (hk : ∀ k : Nat, W.heap[k]? = some (.deferred (some [])) → W'.heap[k]? = W.heap[k]?) : Marks n0 ds W' := by
 obtain ⟨Ds, rfl, h1, h2⟩ := h
 exact ⟨Ds, rfl, h1, fun D hD => ⟨(h2 D hD).1, (hk D (h2 D hD).2).trans (h2 D hD).2⟩⟩
theorem Marks.below {n0 : Nat} {ds : List Deferred} {W W' : World} (h : Marks n0 ds W) (hb : Below W.heap.size W W') : Marks n0 ds W' := h.keep fun k hk => hb.block k (blk_lt hk)
theorem leaves_of_marks {P : Program} {fn : Func} {tmps : Array Value} {R : Ending → World → Prop} {v : Value} {n0 n : Nat} (hres : ∀ W, (results fn tmps).run P W = .ok v W) : ∀ (ds : List Deferred) (W : World), Marks n0 ds W → (∀ W', OnlyMarks n0 W W' → R (.returned v) W') → LeavesInM Fence.wide n P fn tmps R ds .returning W := by
 intro ds
 induction ds with
 | nil => intro W _ hR; exact ⟨v, hres W, hR W (OnlyMarks.refl _ _)⟩
 | cons d ds ih =>
  intro W hm hR
  obtain ⟨Ds, he, h1, h2⟩ := hm
  cases Ds with
  | nil => simp at he
  | cons D Ds =>
   simp only [List.map_cons, List.cons.injEq] at he
   obtain ⟨rfl, rfl⟩ := he
   obtain ⟨hD, hW⟩ := h2 D List.mem_cons_self
   refine ⟨by simp, .inl ⟨D, _, rfl, run_takeDeferred hW, ?_⟩⟩
   refine ih _ ⟨Ds, rfl, (List.nodup_cons.1 h1).2, fun E hE => ?_⟩ (fun W' hW' => hR W' (hW'.step hD hW))
   obtain ⟨e1, e2⟩ := h2 E (List.mem_cons_of_mem _ hE)
   exact ⟨e1, (World.putObj_heap_other (fun e => by subst e; exact (List.nodup_cons.1 h1).1 hE)).trans e2⟩
theorem R_onlyMarks {α : Type} {d : Kd α} {e base n0 : Nat} {ok : Nat → Prop} {w w' : World} {v : Value} {xs : List α} (h : d.R e w base ok v xs) (hm : OnlyMarks n0 w w') : d.R e w' base ok v xs :=
 Kd.R_mono (Kd.R_step (Kd.R_bound h) (fun k hk _ => hm.block k (.inr fun o ho => by obtain ⟨_, _, _, q, _, cells, hh⟩ := hk; rw [ho] at hh; cases hh))) (fun _ hk => hk.1)
theorem below_onlyMarks {w W W' : World} (h : Below w.heap.size w W) (hm : OnlyMarks w.heap.size W W') : Below w.heap.size w W' :=
 ⟨hm.os.trans h.os, hm.tape.trans h.tape, hm.output.trans h.output, by rw [hm.size]; exact h.size, fun k hk => (hm.block k (.inl hk)).trans (h.block k hk)⟩
set_option maxRecDepth 100000 in
set_option maxHeartbeats 1000000 in
theorem bkNode_in (n lp Bs n₀ : Nat) (E : Nat → Prop) (A : Option Addr) (c0 : Nat) (xs : List Node) (hn : 1 ≤ n) (hm : xs.length ≤ 1000000) (J Jx : List (Nat × Node) → World → Prop)
  (hY : ∀ pre x W, J pre W → pre.length < xs.length → YieldAt Fence.wide (n - 1) Tryz.prog lp #[.int .i64 ((x : Nat × Node).1 : Int), vNode x.2] W fun e W' =>
   (e = .returned (.bool true) ∧ J (pre ++ [x]) W' ∧ KpE n₀ E W W') ∨ (e = .returned (.bool false) ∧ Jx (pre ++ [x]) W'))
  (W : World) (hBs : W.cell? ⟨Bs, 0, none⟩ = some (.slice A xs.length c0)) (hB0 : Bs < n₀) (hBE : ¬ E Bs) (hA : ∀ ad, A = some ad → 0 < xs.length → ad.block < n₀ ∧ ¬ E ad.block) (hr : Kd.C k35 W A xs.length xs) (h0 : J [] W) :
  CallsIn Fence.wide n Tryz.prog 56 #[.func (.yield lp) #[] #[], .pointer (some ⟨Bs, 0, none⟩)] W fun e W' => (∃ v, e = .returned v) ∧
   ((∃ ys, ys = bk xs ∧ J ys W') ∨ (∃ pre, pre <+: bk xs ∧ Jx pre W')) := by
 have hu := Tryz.underlying35
 have HY := Aside0.mk hY
 have HR := Aside0.mk hr
 have HA := Aside0.mk hA
 have HE := Aside0.mk hBE
 clear hY hr hA hBE
 refine callsIn_of_wp Tryz.func56 rfl trivial ?_ rfl
 simp only [Tryz.ntmps56, List.size_toArray, List.length_cons, List.length_nil, Nat.reduceAdd, Nat.reduceSub, Array.replicate_succ, Array.replicate_zero, List.push_toArray, List.append_toArray, List.nil_append, List.cons_append]
 gi_wp2
 gi_loopw [3] (fun i wr => ∃ k : Nat, k ≤ xs.length ∧ i = .int .i64 ((xs.length : Int) - 1 - k) ∧ Aside0 (J ((bk xs).take k) wr) ∧ Aside0 (KpE n₀ E W wr)) (fun i _ => (intOf i + 1).toNat)
 case atStart => exact ⟨0, Nat.zero_le _, by simp, ⟨h0⟩, ⟨KpE.refl _ _ _⟩⟩
 case round =>
  obtain ⟨k, hk, rfl, hJ, hK⟩ := hrel
  have hs : wr.cell? ⟨Bs, 0, none⟩ = some (.slice A xs.length c0) := hK.out.cell (p := ⟨Bs, 0, none⟩) hB0 HE.out hBs
  by_cases hlt : k < xs.length
  ·
   obtain ⟨x, hx⟩ : ∃ x, Aside0 (xs[xs.length - 1 - k]? = some x) := ⟨_, ⟨List.getElem?_eq_getElem (by omega)⟩⟩
   obtain ⟨ad, e, g0, g1, g2, g3, g4, g5⟩ := node_at HR.out (Below.refl _ _) _ x hx.out
   subst e
   obtain ⟨ha, hae⟩ := HA.out ad rfl (by omega)
   have hbl : (ad.add ((xs.length - 1 - k) * 6)).block = ad.block := by unfold Addr.add; split <;> rfl
   replace g0 := hK.out.cell (p := ad.add ((xs.length - 1 - k) * 6)) (by rw [hbl]; exact ha) (by rw [hbl]; exact hae) g0
   replace g1 := hK.out.cell (p := ⟨_, _, none⟩) (by simp only [hbl]; exact ha) (by simp only [hbl]; exact hae) g1
   replace g2 := hK.out.cell (p := ⟨_, _, none⟩) (by simp only [hbl]; exact ha) (by simp only [hbl]; exact hae) g2
   replace g3 := hK.out.cell (p := ⟨_, _, none⟩) (by simp only [hbl]; exact ha) (by simp only [hbl]; exact hae) g3
   replace g4 := hK.out.cell (p := ⟨_, _, none⟩) (by simp only [hbl]; exact ha) (by simp only [hbl]; exact hae) g4
   replace g5 := hK.out.cell (p := ⟨_, _, none⟩) (by simp only [hbl]; exact ha) (by simp only [hbl]; exact hae) g5
   clear hbl hae ha
   have hx' : x = xs[xs.length - 1 - k]'(by omega) := by have := hx.out; rw [List.getElem?_eq_getElem (by omega)] at this; exact (Option.some.inj this).symm
   have HT : Aside0 ((bk xs).take (k + 1) = (bk xs).take k ++ [(xs.length - 1 - k, x)]) := ⟨by rw [bk_take_succ xs k hlt, hx']⟩
   clear hx'
   have hi : ((xs.length : Int) - 1 - k) = ((xs.length - 1 - k : Nat) : Int) := by omega
   rw [hi]
   obtain ⟨j, hj⟩ : ∃ j, Aside0 (j = xs.length - 1 - k) := ⟨_, ⟨rfl⟩⟩
   rw [← hj.out] at g0 g1 g2 g3 g4 g5 ⊢
   have hjl : j < xs.length := by rw [hj.out]; omega
   obtain ⟨fn, tmps, assign, body, hy, hR⟩ := HY.out _ (j, x) wr hJ.out (by rw [List.length_take, bk_length]; omega)
   dsimp only at hy
   clear hi
   gi_wp2
   refine hR.mono ?_
   rintro e W3 (⟨rfl, hJ3, hk3⟩ | ⟨rfl, hJx3⟩)
   ·
    gi_wp2
    go_roundw
    case rel => exact ⟨k + 1, by omega, by rw [hj.out]; (try congr 1); (try omega), ⟨by rw [HT.out, ← hj.out]; exact hJ3⟩, ⟨hK.out.trans hk3⟩⟩
    case measure => simp [intOf] <;> omega
   ·
    gi_wp2
    refine bodyPost_ret (results_none rfl _ _ _) rfl ?_
    exact ⟨⟨_, rfl⟩, .inr ⟨_, by rw [hj.out, ← HT.out]; exact List.take_prefix _ _, hJx3⟩⟩
  ·
   obtain rfl : k = xs.length := by omega
   have hi : ((xs.length : Int) - 1 - xs.length) = -1 := by omega
   rw [hi]
   clear hi
   gi_wp2
   go_end0
   exact ⟨⟨_, rfl⟩, .inl ⟨_, rfl, by have := hJ.out; rwa [List.take_of_length_le (by rw [bk_length]; omega)] at this⟩⟩
set_option maxHeartbeats 400000 in
theorem BackwardNode.calls (A : Option Addr) (n c0 : Nat) (w : World) :
  Calls Tryz.prog 36 #[.slice A n c0] w fun e w' => e = .returned (.func (.func 56) #[] #[.pointer (some ⟨w.heap.size, 0, none⟩)]) ∧ w' = w.alloc (.cells #[.slice A n c0] 22) := by
 go_enter Tryz.func36, Tryz.ntmps36
 go_wp2
 go_ret
 exact ⟨rfl, rfl⟩
/-- Where the nodes are, after the first nodes from behind. -/
def atOf (pre : List (Nat × Node)) : List (Dot × Nat) := pre.foldl (fun m p => MapLaw.mset m p.2.f0 p.1) []
theorem atOf_snoc (pre : List (Nat × Node)) (x : Nat × Node) : atOf (pre ++ [x]) = MapLaw.mset (atOf pre) x.2.f0 x.1 := by simp [atOf]
abbrev Fault := S44
/-- The faults of the first k nodes. -/
def faultsUpto (l : List Node) (m : List (Dot × Nat)) (k : Nat) : List Fault := (List.range k).flatMap fun i => if flawOf l m i = 0 then [] else [⟨(i : Int), flawOf l m i⟩]
theorem faultsUpto_succ (l : List Node) (m : List (Dot × Nat)) (k : Nat) : faultsUpto l m (k + 1) = faultsUpto l m k ++ (if flawOf l m k = 0 then [] else [⟨(k : Int), flawOf l m k⟩]) := by
 simp [faultsUpto, List.range_succ]
theorem faultsUpto_length (l : List Node) (m : List (Dot × Nat)) (k : Nat) : (faultsUpto l m k).length ≤ k := by
 induction k with
 | zero => simp [faultsUpto]
 | succ k ih => rw [faultsUpto_succ, List.length_append]; split <;> simp <;> omega
def faultsOf (l : List Node) : List Fault := faultsUpto l (atOf (bk l)) l.length
theorem atOf_lt (n : Nat) : ∀ (pre : List (Nat × Node)) (m : List (Dot × Nat)), (∀ x ∈ pre, x.1 < n) → (∀ d k, MapLaw.mget m d = some k → k < n) → ∀ d k, MapLaw.mget (pre.foldl (fun m p => MapLaw.mset m p.2.f0 p.1) m) d = some k → k < n
 | [], m, _, hm => hm
 | x :: pre, m, hx, hm => by
  refine atOf_lt n pre _ (fun y hy => hx y (List.mem_cons_of_mem _ hy)) ?_
  intro d k h
  rw [MapLaw.mget_mset] at h
  split at h
  ·
   cases h; exact hx x List.mem_cons_self
  ·
   exact hm d k h
theorem bk_lt {α : Type} (l : List α) : ∀ x ∈ bk l, x.1 < l.length := by
 intro x hx
 unfold bk at hx
 rw [List.mem_reverse, List.mem_map] at hx
 obtain ⟨p, hp, rfl⟩ := hx
 exact List.snd_lt_of_mem_zipIdx hp
theorem atOf_bk_lt (l : List Node) : ∀ d k, MapLaw.mget (atOf (bk l)) d = some k → k < l.length :=
 atOf_lt l.length (bk l) [] (bk_lt l) (fun d k h => by simp [MapLaw.mget_nil] at h)
set_option maxHeartbeats 1000000 in
set_option maxRecDepth 100000 in
theorem Faults.walk (A0 : Option Addr) (c0 : Nat) (l0 : List Node) (w : World) (hr0 : Kd.C k35 w A0 l0.length l0) (hc0 : l0.length ≤ c0) (hl : l0.length ≤ 1000000) :
  Calls Tryz.prog 18 #[.slice A0 l0.length c0] w fun e w' => ∃ v0_ : Value, e = .returned (v0_) ∧ Kd.R k44 44 w' w.heap.size (fun _ => True) v0_ (faultsOf l0) ∧ Below w.heap.size w w' := by
 have HR := Aside0.mk hr0
 have HC := Aside0.mk hc0
 have HA : Aside0 (∀ ad, A0 = some ad → 0 < l0.length → ad.block < w.heap.size) := ⟨fun ad e hp => by
  obtain ⟨x, hx⟩ : ∃ x, l0[0]? = some x := ⟨_, List.getElem?_eq_getElem hp⟩
  obtain ⟨ad', e', g0, _⟩ := node_at hr0 (Below.refl _ _) 0 x hx
  rw [e] at e'; cases e'
  have := World.block_lt_of_cell? w _ g0
  have hbl : (ad.add (0 * 6)).block = ad.block := by unfold Addr.add; split <;> rfl
  rw [hbl] at this; exact this⟩
 clear hr0 hc0
 have hmm := @run_makeMap Tryz.prog
 refine calls_of_wp_m Tryz.func18 rfl ?_
 simp only [Tryz.ntmps18, List.size_toArray, List.length_cons, List.length_nil, Nat.reduceAdd, Nat.reduceSub, Array.replicate_succ, Array.replicate_zero, List.push_toArray, List.append_toArray, List.nil_append, List.cons_append]
 go_wp2_with fail
 refine (BackwardNode.calls _ _ _ _).mono ?_
 rintro e w1 ⟨rfl, rfl⟩
 go_wp2_with fail
 have hM : MapLaw.MapIs (κ := Dot) (β := Nat) vDot vNat (((w.alloc (.map #[] 0)).alloc (.cells #[.map (some w.heap.size)] 68)).alloc (.cells #[.slice A0 l0.length c0] 22)) w.heap.size [] :=
  (MapLaw.MapIs.new w).below ((((Below.refl _ _).alloc (Nat.le_refl _) _).alloc (by simp) _))
 have hB : (((w.alloc (.map #[] 0)).alloc (.cells #[.map (some w.heap.size)] 68)).alloc (.cells #[.slice A0 l0.length c0] 22)).heap[w.heap.size + 1]? = some (.cells #[.map (some w.heap.size)] 68 (0, 0)) := by
  have := blk_new (w.alloc (.map #[] 0)) (.cells #[.map (some w.heap.size)] 68)
  rw [World.size_alloc] at this
  exact blk_alloc this _
 have hS : (((w.alloc (.map #[] 0)).alloc (.cells #[.map (some w.heap.size)] 68)).alloc (.cells #[.slice A0 l0.length c0] 22)).heap[w.heap.size + 2]? = some (.cells #[.slice A0 l0.length c0] 22 (0, 0)) := by
  have := blk_new ((w.alloc (.map #[] 0)).alloc (.cells #[.map (some w.heap.size)] 68)) (.cells #[.slice A0 l0.length c0] 22)
  simpa [World.size_alloc] using this
 have hW : Below w.heap.size w (((w.alloc (.map #[] 0)).alloc (.cells #[.map (some w.heap.size)] 68)).alloc (.cells #[.slice A0 l0.length c0] 22)) :=
  below_alloc (below_alloc (below_alloc (Below.refl _ _) _) _) _
 have hsz : (((w.alloc (.map #[] 0)).alloc (.cells #[.map (some w.heap.size)] 68)).alloc (.cells #[.slice A0 l0.length c0] 22)).heap.size = w.heap.size + 3 := by simp
 generalize (((w.alloc (.map #[] 0)).alloc (.cells #[.map (some w.heap.size)] 68)).alloc (.cells #[.slice A0 l0.length c0] 22)) = W1 at *
 have HR1 := Kd.C_below HR.out hW
 refine wpIn_wide.1 (wpIn_rangeFunc_ownH (n := 9) (F := Fence.wide) rfl (by decide) (gf := 56) (lb := #[.pointer (some ⟨w.heap.size + 1 + 1, 0, none⟩)]) rfl trivial Tryz.call56
  (encs := fun x : Nat × Node => #[.int .i64 (x.1 : Int), vNode x.2]) (Kp := KpE W1.heap.size (fun i => i = w.heap.size)) (S := fun ys => ys = bk l0) (Sp := fun pre => pre <+: bk l0) (N := l0.length) (w0 := W1)
  (fun lp J Jx W hWW _ _ hY h0 => bkNode_in 8 lp (w.heap.size + 1 + 1) W1.heap.size (fun i => i = w.heap.size) A0 c0 l0 (by decide) hl J Jx hY W ((hWW.cell (p := ⟨w.heap.size + 1 + 1, 0, none⟩) (by show w.heap.size + 1 + 1 < _; omega)).trans ((blk_cell hS 0).trans rfl)) (by omega) (by show ¬ (w.heap.size + 1 + 1 = w.heap.size); omega) (fun ad e hp => by have := HA.out ad e hp; exact ⟨by omega, by show ¬ (ad.block = w.heap.size); omega⟩) (Kd.C_below HR1 hWW) h0)
  (fun h k => h.trans k) (fun W l o o' hl _ _ _ => KpE.put (Nat.le_refl _) W l o o' hl) (Below.refl _ _) (fun _ => rfl)
  (fun pre W => (MapLaw.MapIs vDot vNat W w.heap.size (atOf pre) ∧ W.heap[w.heap.size + 1]? = some (.cells #[.map (some w.heap.size)] 68 (0, 0))) ∧ (Below w.heap.size w W ∧ W1.heap.size ≤ W.heap.size))
  (fun _ _ _ => False)
  (OwnFrom.and (OwnFrom.and (MapLaw.MapIs.ownFrom (by omega)) blk_own) (OwnFrom.and (ownFrom_below (Nat.le_refl _) (by omega)) (fun _ _ _ _ hs hg _ => Nat.le_trans hs hg.size)))
  (fun _ _ _ _ _ hs _ _ => hs)
  ⟨⟨hM, hB⟩, hW, Nat.le_refl _⟩
  (fun x a' W => ∃ Bx, W1.heap.size ≤ Bx ∧ W.heap[Bx]? = some (.cells #[.int .i64 x.2.f0.f0, .int .i64 x.2.f0.f1, .int .i64 x.2.f1.f0, .int .i64 x.2.f1.f1, .int .i64 x.2.f2, .int .i32 x.2.f3] 35 (0, 0)) ∧ a' = { tmps := #[.slice A0 l0.length c0, undef, .slice none 0 0, .pointer (some ⟨w.heap.size + 1, 0, none⟩), .int .i64 (x.1 : Int), .pointer (some ⟨Bx, 0, none⟩), undef, undef, undef, .map (some w.heap.size), .slice A0 l0.length c0, .func (.func 56) #[] #[.pointer (some ⟨w.heap.size + 1 + 1, 0, none⟩)], .int .i64 (x.1 : Int), vNode x.2, undef, undef, undef, undef, undef, undef, undef, undef, undef, undef, undef, undef, undef, undef, undef, undef, undef, undef, undef, undef, undef, undef, undef], defers := [] })
  (fun x a' _ W W' row hs hg hr => by
   obtain ⟨Bx, h1, h2, h3⟩ := hs
   exact ⟨Bx, h1, (hg.block Bx (blk_lt h2) (fun e => by obtain ⟨_, o, ho, hc⟩ := hr Bx e.symm; rw [h2] at ho; cases ho; cases hc)).trans h2, h3⟩)
  ?assign ?body ?done ?stop)
 case assign =>
  rintro l pre x W K ⟨⟨hi1, hi2⟩, hi3, hi4⟩ hK
  gi_wp2
  exact hK _ _ ((KeepsOthers.alloc _ _).from _) (KpE.below ((Below.refl _ W).alloc hi4 _)) ⟨⟨hi1.below (below_alloc (Below.refl _ _) _), blk_alloc hi2 _⟩, hi3.alloc hi3.size _, by simp; omega⟩ ⟨W.heap.size, hi4, blk_new _ _, rfl⟩
 case body =>
  rintro l pre x a' W hl2 ⟨rr, hrr⟩ ⟨⟨hi1, hi2⟩, hi3, hi4⟩ ⟨Bx, hx1, hx2, rfl⟩ hlt
  have hc0 : W.cell? ⟨w.heap.size + 1, 0, none⟩ = _ := (blk_cell hi2 0).trans rfl
  have hc1 : W.cell? ⟨Bx, 0, none⟩ = _ := (blk_cell hx2 0).trans rfl
  have hc2 : W.cell? ⟨Bx, 1, none⟩ = _ := (blk_cell hx2 1).trans rfl
  gi_wp2_with (gi_at_mapUpdate; refine MapLaw.wpListIn_update rfl _ _ _ _ rfl dotKey Tryz.underlying68 x.2.f0 x.1 rfl rfl rfl hi1 ?_; intro w2 hm2 hg2)
  exact ⟨KeepsFrom.of_grownBy hg2 (fun j e => by cases e; omega), KpE.grown hg2 (fun r e => by cases e; rfl) hi4, ⟨by rw [atOf_snoc]; exact hm2, (hg2.block _ (blk_lt hi2) (by simp)).trans hi2⟩, hi3.grown hg2 hi3.size (fun k e => by cases e; exact Nat.le_refl _), Nat.le_trans hi4 hg2.size⟩
 case done =>
  rintro D ys W hD rfl ⟨⟨hi1, hi2⟩, hi3, hi4⟩ hK
  have HI1 := Aside0.mk hi1
  have HI2 := Aside0.mk hi2
  have HI3 := Aside0.mk hi3
  have HK := Aside0.mk hK
  have HS := Aside0.mk hsz
  clear hi1 hi2 hi3 hi4 hK hM hB hS hsz HR1
  have HMB := Aside0.mk (atOf_bk_lt l0)
  obtain ⟨m, Hm⟩ : ∃ m, Aside0 (atOf (bk l0) = m) := ⟨_, ⟨rfl⟩⟩
  rw [Hm.out] at HI1 HMB
  go_wp2
  go_loopw [6, 20] (fun v i wr => ∃ k : Nat, k ≤ l0.length ∧ i = .int .i64 k ∧ Aside0 (Kd.R k44 44 wr w.heap.size (fun _ => True) v (faultsUpto l0 m k)) ∧ Aside0 (MapLaw.MapIs vDot vNat wr w.heap.size m) ∧ Aside0 (wr.heap[w.heap.size + 1]? = some (.cells #[.map (some w.heap.size)] 68 (0, 0))) ∧ Aside0 (wr.heap[D]? = some (.deferred (some []))) ∧ Aside0 (Below w.heap.size w wr)) (fun _ i _ => l0.length - (intOf i).toNat)
  case atStart => exact ⟨0, Nat.zero_le _, rfl, ⟨Kd.R_nil _ _ _ _ _⟩, HI1, HI2, HK, HI3⟩
  case round =>
   obtain ⟨k, hk, rfl, HO, HI1, HI2, HK, HI3⟩ := hrel
   have hc0 : wr.cell? ⟨w.heap.size + 1, 0, none⟩ = _ := (blk_cell HI2.out 0).trans rfl
   by_cases hlt : k < l0.length
   ·
    obtain ⟨f, Hf⟩ : ∃ f, Aside0 (flawOf l0 m k = f) := ⟨_, ⟨rfl⟩⟩
    go_wp2_with fail
    refine (flaw.calls A0 c0 l0 w.heap.size m k wr (Kd.C_below HR.out HI3.out) HC.out hl HI1.out HMB.out hlt).mono ?_
    rintro e w2 ⟨rfl, hb2⟩
    rw [Hf.out]
    have HO2 := Aside0.mk (Kd.R_below HO.out hb2)
    have HI12 := Aside0.mk (HI1.out.below hb2)
    have HI22 := Aside0.mk (blk_keep HI2.out hb2)
    have HK2 := Aside0.mk (blk_keep HK.out hb2)
    have HI32 := Aside0.mk (below_more HI3.out hb2)
    clear HO HI1 HI2 HK HI3 hb2 hc0
    by_cases hf : f = 0
    ·
     have hfb : (f != 0) = false := bne_eq_false_iff_eq.mpr hf
     have HF0 : Aside0 (flawOf l0 m k = 0) := ⟨Hf.out.trans hf⟩
     clear hf
     go_wp2
     go_roundw
     case rel => exact ⟨k + 1, by omega, by go_num, ⟨by rw [faultsUpto_succ, if_pos HF0.out, List.append_nil]; exact HO2.out⟩, HI12, HI22, HK2, HI32⟩
     case measure => simp [intOf]; omega
    ·
     have hfb : (f != 0) = true := bne_iff_ne.mpr hf
     have HF0 : Aside0 (¬ flawOf l0 m k = 0) := ⟨fun h => hf (Hf.out.symm.trans h)⟩
     clear hf
     have hlen := faultsUpto_length l0 m k
     go_wp2_with (at_builtin; go_loud (refine Kd.R_append k44 (w0 := w) w.heap.size rfl (.tmp 29) (.tmp 33) 46 44 (.agg #[(.int .i64 0), (.int .i64 0)]) 16 rfl Tryz.underlying46 info44 rfl (by decide) (by omega) u6 (faultsUpto l0 m k) (⟨(k : Int), f⟩ : Fault) [.int .i64 (k : Int), .int .i64 f] (fun _ => True) (fun _ => False) rfl rfl ?aP (fun _ hk => hk.elim) ?aF ?aO ?aB ?aS ?aL ?_); (case aP => exact k44_mkM _ _ _ (⟨(k : Int), f⟩ : Fault)); (case aF => exact (fun _ _ => trivial)); (case aO => exact HO2.out); (case aB => exact HI32.out); (case aS => exact HI32.out.size); (case aL => omega); intro v2 w3 ho hb hg hat)
     have hn1 := R_apart_obj HO2.out HI22.out (fun cells h => by cases h)
     have hn2 := R_apart_obj HO2.out HK2.out (fun cells h => by cases h)
     have hn3 : some w.heap.size ≠ u6.ownBlock := by
      obtain ⟨es, cl, h1, _⟩ := HI12.out
      exact R_apart_obj HO2.out h1 (fun cells h => by cases h)
     go_roundw
     case rel => exact ⟨k + 1, by omega, by go_num, ⟨by rw [faultsUpto_succ, if_neg HF0.out, Hf.out]; exact ho⟩, ⟨HI12.out.same (hg.block _ HI12.out.lt hn3)⟩, ⟨(hg.block _ (blk_lt HI22.out) hn1).trans HI22.out⟩, ⟨(hg.block _ (blk_lt HK2.out) hn2).trans HK2.out⟩, ⟨hb⟩⟩
     case measure => simp [intOf]; omega
   ·
    obtain rfl : k = l0.length := by omega
    go_wp2
    refine ⟨by simp, .inl ⟨_, _, rfl, run_takeDeferred HK.out, ?_⟩⟩
    refine ⟨_, results_tmp rfl _ _ _, _, rfl, ?_, below_putObj HI3.out (by have := HS.out; omega) _⟩
    unfold faultsOf
    rw [Hm.out]
    exact R_putObj HO.out HK.out rfl _
 case stop =>
  rintro D c pre W _ _ h _
  exact h.elim
def shape_Faults.f (l0 : List Node) : Option (List Fault) := if l0.length ≤ 1000000 then some (faultsOf l0) else none
theorem shape_Faults.calls (A0 : Option Addr) (c0 : Nat) (l0 : List Node) (r : List Fault) (w : World) (hr0 : Kd.C k35 w A0 l0.length l0) (hc0 : l0.length ≤ c0) (h : shape_Faults.f l0 = some r) :
  Calls Tryz.prog 18 #[.slice A0 l0.length c0] w fun e w' => ∃ v0_ : Value, e = .returned (v0_) ∧ Kd.R k44 44 w' w.heap.size (fun _ => True) v0_ r ∧ Below w.heap.size w w' := by
 unfold shape_Faults.f at h
 by_cases hl : l0.length ≤ 1000000
 ·
  rw [if_pos hl] at h
  obtain rfl := Option.some.inj h
  exact Faults.walk A0 c0 l0 w hr0 hc0 hl
 ·
  rw [if_neg hl] at h; cases h
end
end Go.Proofs.YtdheokololpnbaaGreatDoor.PWalk
end
section
namespace Go.Proofs.YtdheokololpnbaaGreatDoor.PWalk
open Go.RowKit Go.Proofs.YtdheokololpnbaaGreatDoorW.PrintWords Go.Proofs.YtdheokololpnbaaGreatDoorW.PrintLast Go.Proofs.YtdheokololpnbaaGreatDoorW.PrintMore
set_option linter.unusedVariables false
set_option linter.unusedSimpArgs false
section
open Go.Shelf
attribute [local go_sem] Oper.semAt_some
def nodeCells (x : Node) : List Value := [.int .i64 x.f0.f0, .int .i64 x.f0.f1, .int .i64 x.f1.f0, .int .i64 x.f1.f1, .int .i64 x.f2, .int .i32 x.f3]
def cellsOf (l : List Node) : List Value := l.flatMap nodeCells
theorem cellsOf_length (l : List Node) : (cellsOf l).length = l.length * 6 := by
 induction l with
 | nil => rfl
 | cons x l ih => rw [cellsOf, List.flatMap_cons, List.length_append, ← cellsOf, ih]; simp [nodeCells]; omega
theorem cellsOf_append (l m : List Node) : cellsOf (l ++ m) = cellsOf l ++ cellsOf m := by simp [cellsOf]
theorem cellsOf_drop_take (l : List Node) (j : Nat) (x : Node) (h : l[j]? = some x) : ((cellsOf l).drop (j * 6)).take 6 = nodeCells x := by
 induction l generalizing j with
 | nil => simp at h
 | cons y l ih =>
  cases j with
  | zero => simp at h; subst h; simp [cellsOf, nodeCells]
  | succ j =>
   simp at h
   rw [show (j + 1) * 6 = 6 + j * 6 from by omega, cellsOf, List.flatMap_cons, ← cellsOf, ← List.drop_drop, List.drop_left' (by simp [nodeCells])]
   exact ih j h
theorem reps_cells {R : Node → List Value → Prop} (l : List Node) (hR : ∀ x, R x (nodeCells x)) : Reps R 6 l (cellsOf l) :=
 ⟨cellsOf_length l, fun j p hj => by rw [cellsOf_drop_take l j p hj]; exact hR p⟩
theorem cells_of_reps {R : Node → List Value → Prop} (l : List Node) (cs : List Value) (h : Reps R 6 l cs) (hR : ∀ x c, R x c → c = nodeCells x) : cs = cellsOf l := by
 induction l generalizing cs with
 | nil => have := h.1; simp at this; subst this; rfl
 | cons x l ih =>
  obtain ⟨h1, h2⟩ := h
  have h0 := hR _ _ (h2 0 x rfl)
  simp only [Nat.zero_mul, List.drop_zero] at h0
  have ht : Reps R 6 l (cs.drop 6) := ⟨by rw [List.length_drop, h1]; simp; omega, fun j p hj => by
   have := h2 (j + 1) p (by simpa using hj)
   rw [List.drop_drop, show 6 + j * 6 = (j + 1) * 6 from by omega]; exact this⟩
  rw [cellsOf, List.flatMap_cons, ← cellsOf, ← ih _ ht, ← h0, List.take_append_drop]
theorem R_of_cells {w : World} {base : Nat} {ok : Nat → Prop} {v : Value} {l : List Node} (h : w.ownsRow base 35 6 v l.length (cellsOf l)) (hok : ∀ k, v.ownBlock = some k → ok k) : Kd.R k35 35 w base ok v l :=
 ⟨hok, cellsOf l, h, reps_cells l fun x => k35_mkM _ _ _ x⟩
theorem cells_of_R {w : World} {base : Nat} {ok : Nat → Prop} {v : Value} {l : List Node} (h : Kd.R k35 35 w base ok v l) : w.ownsRow base 35 6 v l.length (cellsOf l) := by
 obtain ⟨_, inner, ho, hr⟩ := h
 rw [← cells_of_reps l inner hr fun x c hx => k35_openM hx]
 exact ho
theorem cellsOf_get (l : List Node) (j : Nat) (u : Value) (h : (cellsOf l)[j]? = some u) : ∃ x, l[j / 6]? = some x ∧ (nodeCells x)[j % 6]? = some u := by
 have hj : j < l.length * 6 := by rw [← cellsOf_length]; exact (List.getElem?_eq_some_iff.1 h).1
 have hd : j / 6 < l.length := by omega
 refine ⟨l[j / 6], List.getElem?_eq_getElem hd, ?_⟩
 rw [← cellsOf_drop_take l (j / 6) _ (List.getElem?_eq_getElem hd), List.getElem?_take, if_pos (by omega), List.getElem?_drop, show j / 6 * 6 + j % 6 = j from by omega]
 exact h
theorem C_cells {w : World} {A : Option Addr} {n : Nat} {xs : List Node} (h : Kd.C k35 w A n xs) (hp : 0 < n) : ∃ ad, A = some ad ∧ ∀ j u, (cellsOf xs)[j]? = some u → w.cell? (ad.add j) = some u := by
 obtain ⟨hl, _, hc⟩ := h
 obtain ⟨ad, e, hc⟩ := hc hp
 refine ⟨ad, e, fun j u hu => ?_⟩
 obtain ⟨x, hx, hu⟩ := cellsOf_get xs j u hu
 obtain ⟨c, _, hK, hcell⟩ := hc _ _ hx
 have hcx : c = nodeCells x := k35_open hK
 subst hcx
 have h2 := hcell _ _ hu
 have e2 : j / 6 * (k35).sz + j % 6 = j := (show j / 6 * 6 + j % 6 = j by omega)
 rw [e2] at h2
 exact h2
theorem one_cells (l : List Node) : ∀ u ∈ cellsOf l, u.oneCell' = true := by
 intro u hu
 unfold cellsOf at hu
 rw [List.mem_flatMap] at hu
 obtain ⟨x, _, hx⟩ := hu
 simp [nodeCells] at hx
 rcases hx with rfl | rfl | rfl | rfl | rfl | rfl <;> rfl
theorem infoN : (Tryz.prog.info? 35).map (fun i => (i.zero, i.size, i.bytes)) = some (some (.agg #[(.int .i64 0), (.int .i64 0), (.int .i64 0), (.int .i64 0), (.int .i64 0), (.int .i32 0)]), 6, 48) := by kernel_rfl
section
variable {P : Program} {ops : Array Oper} {rest : List Oper} {o : Oper} {a : Act} {Q : Exit → Act → World → Prop}
theorem wpList_append_eq (hgd : o.guard = none) (s x : Operand) (t : TypeId) (ho : o.op = .call { callee := .builtin .append, args := #[s, x], argTypes := #[t, t] }) {v1 v2 v' : Value} {w w' : World}
  (hs : a.eval s = v1) (hx : a.eval x = v2) (hrun : (Builtin.append_ #[t, t] o.type #[v1, v2]).run P w = .ok v' w') (h : wpList P ops Q rest (a.put o.dst v') w') : wpList P ops Q (o :: rest) a w := by
 refine wpList_plain hgd fun K hK => ?_
 unfold Oper.wp
 simp [execOp, ho, resolve, invoke, builtin, hs, hx, hrun, Result.andThen]
 exact hK _ _ h
end
theorem setRow_at {w : World} {g : Nat} {cur : Array Value} {t : TypeId} {fr : Nat × Nat} (h : w.heap[g]? = some (.cells cur t fr)) (cs : Array Value) : (w.setRow g cs).heap[g]? = some (.cells cs t fr) := by
 unfold World.setRow
 simp only [Array.getElem?_modify, if_true, h]
 rfl
theorem setRow_grown (w : World) (g : Nat) (cs : Array Value) : w.grownBy (w.setRow g cs) (some g) :=
 ⟨rfl, rfl, rfl, by simp, fun k hk hne => setRow_other w g k cs (fun e => hne (by rw [e]))⟩
theorem run_clear_row {P : Program} {t e : TypeId} {z : Value} (ht : P.underlying t = some (.slice e)) (hz : ∀ w, (zeroValue e).run P w = .ok z w) (h1 : ∀ u ∈ z.cells.toList, u.oneCell' = true) (ty : TypeId) (g off n c : Nat) (cur : Array Value) (te : TypeId) (w : World)
  (hg : w.heap[g]? = some (.cells cur te (0, 0))) (hn : 0 < n) (hfit : off + n * z.cells.size ≤ cur.size) :
  (Builtin.clear_ #[t] ty #[.slice (some ⟨g, off, none⟩) n c]).run P w = .ok (.tuple #[]) (w.setRow g (cur.toList.take off ++ (Builtin.zeroCells z.cells n).toList ++ cur.toList.drop (off + n * z.cells.size)).toArray) := by
 obtain ⟨m, rfl⟩ : ∃ m, n = m + 1 := ⟨n - 1, by omega⟩
 have hs := run_storeCells_at (P := P) g off te (Builtin.zeroCells z.cells (m + 1)).toList 0 cur w hg (by simp [size_zeroCells]; omega) (by
  intro v hv
  simp only [Builtin.zeroCells, Array.toList_map, List.mem_map] at hv
  obtain ⟨i, hi, rfl⟩ := hv
  rcases Nat.eq_zero_or_pos z.cells.size with h0 | h0
  ·
   simp [h0] at hi
  ·
   have hlt := Nat.mod_lt i h0
   rw [getElem!_pos z.cells (i % z.cells.size) hlt]
   exact h1 _ (by simp))
 have hlen : (Builtin.zeroCells z.cells (m + 1)).toList.length = (m + 1) * z.cells.size := by simp [size_zeroCells]
 rw [hlen] at hs
 simp only [Nat.add_zero] at hs
 unfold Builtin.clear_
 simp [run_underlying ht, hz, hs, Result.andThen]
set_option maxHeartbeats 400000 in
set_option maxRecDepth 100000 in
theorem CloneNode.calls (A0 : Option Addr) (c0 : Nat) (l0 : List Node) (w : World) (hr0 : Kd.C k35 w A0 l0.length l0) (hl : l0.length ≤ 1000000) :
  Calls Tryz.prog 29 #[.slice A0 l0.length c0] w fun e w' => ∃ v0_ : Value, e = .returned v0_ ∧ Kd.R k35 35 w' w.heap.size (fun _ => True) v0_ l0 ∧ Below w.heap.size w w' := by
 cases A0 with
 | none =>
  have hz : l0 = [] := by
   cases l0 with
   | nil => rfl
   | cons x l => obtain ⟨ad, e, _⟩ := C_cells hr0 (by simp); cases e
  subst hz
  have hq := fun (W : World) => Lib.run_eql_slice_nil_nil (P := Tryz.prog) W 0 c0 Tryz.underlying22
  clear hr0
  go_enter Tryz.func29, Tryz.ntmps29
  go_wp2
  go_ret
  exact ⟨_, rfl, Kd.R_nil _ _ _ _ _, Below.refl _ _⟩
 | some ad =>
  have hq := fun (W : World) => Lib.run_eql_slice_some_nil (P := Tryz.prog) W ad l0.length c0 Tryz.underlying22
  have HR := Aside0.mk hr0
  obtain ⟨i0, hi, hz0, hz1, hz2⟩ := info_parts infoN
  have hz := Tryz.zeroValue35
  have hlen := cellsOf_length l0
  have hcells : Aside0 (∀ j u, (cellsOf l0)[j]? = some u → w.cell? (ad.add j) = some u) := ⟨by
   intro j u hu
   by_cases hp : 0 < l0.length
   ·
    obtain ⟨ad', e, h⟩ := C_cells hr0 hp
    cases e; exact h j u hu
   ·
    have : l0 = [] := by cases l0 <;> simp_all
    subst this; simp [cellsOf] at hu⟩
  clear hr0
  go_enter Tryz.func29, Tryz.ntmps29
  go_wp2_with (at_builtin; go_loud (refine wpList_append_own _ rfl (.tmp 5) (.tmp 6) 22 rfl w.heap.size 35 i0 _ 6 48 Tryz.underlying22 hi hz0 hz1 hz2 rfl (by decide) _ 0 [] rfl (World.ownsRow_lit w #[] 0 (Nat.le_refl _) (by decide) rfl) ad l0.length c0 (cellsOf l0) rfl hlen ?c1 (one_cells l0) ?c2 ?c3 ?c4 ?_); (case c1 => exact fun j u hu => pw_cell_below (below_alloc (Below.refl _ _) _) (hcells.out j u hu)); (case c2 => unfold maxLen; omega); (case c3 => omega); (case c4 => simp); intro v' w' ho hg hn)
  go_ret
  exact ⟨_, rfl, R_of_cells (by simpa using ho) (fun _ _ => trivial), (below_alloc (Below.refl _ _) _).grown hg (by simp) (fun k e => by cases (show some w.heap.size = some k from e); exact Nat.le_refl _)⟩
theorem cellsOf_take (l : List Node) (i : Nat) : cellsOf (l.take i) = (cellsOf l).take (i * 6) := by
 by_cases h : i ≤ l.length
 ·
  have e : cellsOf l = cellsOf (l.take i) ++ cellsOf (l.drop i) := by rw [← cellsOf_append, List.take_append_drop]
  rw [e, List.take_left' (by rw [cellsOf_length, List.length_take]; omega)]
 ·
  rw [List.take_of_length_le (by omega), List.take_of_length_le (by rw [cellsOf_length]; omega)]
theorem cellsOf_drop (l : List Node) (i : Nat) : cellsOf (l.drop i) = (cellsOf l).drop (i * 6) := by
 by_cases h : i ≤ l.length
 ·
  have e : cellsOf l = cellsOf (l.take i) ++ cellsOf (l.drop i) := by rw [← cellsOf_append, List.take_append_drop]
  rw [e, List.drop_left' (by rw [cellsOf_length, List.length_take]; omega)]
 ·
  rw [List.drop_of_length_le (by omega), List.drop_of_length_le (by rw [cellsOf_length]; omega)]; rfl
set_option maxHeartbeats 1000000 in
set_option maxRecDepth 100000 in
/-- slices.Delete(s, i, i + 1) of a slice of the call's own. -/
theorem DeleteNode.calls (base : Nat) (v : Value) (l0 : List Node) (i j : Nat) (hij : j = i + 1) (w : World) (ho : Kd.R k35 35 w base (fun _ => True) v l0) (hi : i < l0.length) (hl : l0.length ≤ 1000000) :
  Calls Tryz.prog 31 #[v, .int .i64 i, .int .i64 j] w fun e w' => ∃ v0_ : Value, e = .returned v0_ ∧ Kd.R k35 35 w' base (fun _ => True) v0_ (l0.eraseIdx i) ∧ w.grownBy w' v.ownBlock := by
 obtain ⟨g, cap, rfl, hg1, hg2, _⟩ := Kd.R_form ho (by omega)
 have hrow := cells_of_R ho
 obtain ⟨hrl, hrow⟩ := hrow
 rcases hrow with ⟨h, _⟩ | ⟨g', cap', cur, he, hbg, hcur, hle, hmx, hsz, htk⟩
 ·
  cases h
 cases he
 have HMX := Aside0.mk hmx
 obtain ⟨i0, hi0, hz0, hz1, hz2⟩ := info_parts infoN
 have hz := Tryz.zeroValue35
 have HCUR := Aside0.mk hcur
 have HTK := Aside0.mk htk
 have HSZ := Aside0.mk hsz
 have HLE := Aside0.mk hle
 have HI := Aside0.mk hi0
 have HI1 := Aside0.mk hz1
 have HB := Aside0.mk hbg
 have hcl := cellsOf_length l0
 -- what the append leaves
 obtain ⟨n, hn⟩ : ∃ n, l0.length = n + 1 := ⟨l0.length - 1, by omega⟩
 have hcells : ∀ j u, (cellsOf l0)[j]? = some u → w.cell? ⟨g, j, none⟩ = some u := fun j u hu => by
  rw [blk_cell hcur, ← Array.getElem?_toList]
  rw [← htk] at hu
  rw [List.getElem?_take] at hu
  split at hu
  ·
   exact hu
  ·
   cases hu
 obtain ⟨ad, had⟩ : ∃ ad, (if cap = j then (⟨g, 0, none⟩ : Addr) else ⟨g, j * 6, none⟩) = ad := ⟨_, rfl⟩
 have hnews : ∀ q u, ((cellsOf l0).drop (j * 6))[q]? = some u → w.drew.cell? (ad.add q) = some u := by
  intro q u hu
  rw [List.getElem?_drop] at hu
  have hlt := (List.getElem?_eq_some_iff.1 hu).1
  rw [if_neg (by omega)] at had
  subst had
  have h := hcells _ _ hu
  show w.cell? _ = _
  rw [show ((⟨g, j * 6, none⟩ : Addr).add q) = ⟨g, j * 6 + q, none⟩ from by unfold Addr.add; split <;> simp_all]
  exact h
 have hrun := run_append_room (P := Tryz.prog) (w := w.drew) 22 22 35 i0 Tryz.underlying22 hi0 g i cap cur hcur ad (l0.length - j) (cap - j) ((cellsOf l0).drop (j * 6)) (by rw [List.length_drop, hz1]; omega) hnews (fun u hu => one_cells l0 u (List.mem_of_mem_drop hu)) (by omega) (by rw [hz1, List.length_drop]; omega)
 rw [hz1, show i + (l0.length - j) = n from by omega] at hrun
 have hcur2 := setRow_at (show w.drew.heap[g]? = _ from hcur) (cur.toList.take (i * 6) ++ (cellsOf l0).drop (j * 6) ++ cur.toList.drop (i * 6 + ((cellsOf l0).drop (j * 6)).length)).toArray
 obtain ⟨cur2, hc2⟩ : ∃ cur2, (cur.toList.take (i * 6) ++ (cellsOf l0).drop (j * 6) ++ cur.toList.drop (i * 6 + ((cellsOf l0).drop (j * 6)).length)).toArray = cur2 := ⟨_, rfl⟩
 rw [hc2] at hrun hcur2
 have hgr := setRow_grown w.drew g cur2
 obtain ⟨w2, hw2⟩ : ∃ w2, w.drew.setRow g cur2 = w2 := ⟨_, rfl⟩
 rw [hw2] at hrun hcur2 hgr
 have htk2 : cur2.toList.take (n * 6) = cellsOf (l0.eraseIdx i) := by
  rw [← hc2, List.eraseIdx_eq_take_drop_succ, cellsOf_append, cellsOf_take, cellsOf_drop, ← hij]
  have h1 : cur.toList.take (i * 6) = (cellsOf l0).take (i * 6) := by rw [← htk, List.take_take]; congr 1; omega
  simp only []
  rw [h1, List.take_left' (by rw [List.length_append, List.length_take, List.length_drop]; omega)]
 have hsz2 : cur2.size = cap * 6 := by
  rw [← hc2, List.size_toArray, List.length_append, List.length_append, List.length_take, List.length_drop, List.length_drop, Array.length_toList]
  have : cur.toList.length = cap * 6 := by rw [Array.length_toList]; exact hsz
  omega
 have hclr := run_clear_row (P := Tryz.prog) Tryz.underlying22 hz (by decide) 0 g (n * 6) (l0.length - n) (cap - n) cur2 35 w2 hcur2 (by omega) (by rw [hsz2]; show n * 6 + (l0.length - n) * 6 ≤ cap * 6; omega)
 have harr : ∀ (zs : List Value), zs.length = (l0.length - n) * 6 → (cur2.toList.take (n * 6) ++ zs ++ cur2.toList.drop (n * 6 + (l0.length - n) * 6)).toArray.size = cap * 6 ∧ (cur2.toList.take (n * 6) ++ zs ++ cur2.toList.drop (n * 6 + (l0.length - n) * 6)).toArray.toList.take (n * 6) = cellsOf (l0.eraseIdx i) := by
  intro zs hzs
  have hl2 : cur2.toList.length = cap * 6 := by rw [Array.length_toList]; exact hsz2
  constructor
  ·
   rw [List.size_toArray, List.length_append, List.length_append, List.length_take, List.length_drop]; omega
  ·
   show (cur2.toList.take (n * 6) ++ zs ++ cur2.toList.drop (n * 6 + (l0.length - n) * 6)).take (n * 6) = _
   rw [List.append_assoc, List.take_left' (by rw [List.length_take]; omega)]; exact htk2
 obtain ⟨cur3, hc3⟩ : ∃ cur3, (cur2.toList.take (n * 6) ++ (Builtin.zeroCells (Value.agg #[(.int .i64 0), (.int .i64 0), (.int .i64 0), (.int .i64 0), (.int .i64 0), (.int .i32 0)]).cells (l0.length - n)).toList ++ cur2.toList.drop (n * 6 + (l0.length - n) * 6)).toArray = cur3 := ⟨_, rfl⟩
 have hclr2 : (Builtin.clear_ #[22] 0 #[.slice (some ⟨g, n * 6, none⟩) (l0.length - n) (cap - n)]).run Tryz.prog w2 = .ok (.tuple #[]) (w2.setRow g cur3) := by rw [← hc3]; exact hclr
 have hfin := harr ((Builtin.zeroCells (Value.agg #[(.int .i64 0), (.int .i64 0), (.int .i64 0), (.int .i64 0), (.int .i64 0), (.int .i32 0)]).cells (l0.length - n)).toList) (by rw [Array.length_toList, size_zeroCells]; rfl)
 rw [hc3] at hfin
 have HFIN := Aside0.mk hfin
 have HCLR := Aside0.mk hclr2
 have HC3 := Aside0.mk (setRow_at hcur2 cur3)
 have HG3 := Aside0.mk (setRow_grown w2 g cur3)
 obtain ⟨w3, hw3⟩ : ∃ w3, w2.setRow g cur3 = w3 := ⟨_, rfl⟩
 rw [hw3] at HCLR HC3 HG3
 have HRUN := Aside0.mk hrun
 have HC2 := Aside0.mk hcur2
 have HGR := Aside0.mk hgr
 have HTK2 := Aside0.mk htk2
 have HSZ2 := Aside0.mk hsz2
 have HAD := Aside0.mk had
 have HN := Aside0.mk hn
 clear hw3 hclr2 harr hfin hc3 hcur htk hsz ho hrl hnews hcells hrun hclr hcur2 hgr htk2 hsz2 hw2 hc2 had hz0 hz1 hz2 hi0 hmx hcl hz hn
 have hic : i ≤ cap := by omega
 have hjc : j ≤ l0.length := by omega
 have hbe : ((i : Int) == (j : Int)) = false := beq_eq_false_iff_ne.2 (by omega)
 have HIJ := Aside0.mk hij
 have hijl : i ≤ j := by omega
 clear hij
 go_enter Tryz.func31, Tryz.ntmps31
 go_wp2
 go_still_tail 6, (by kernel_rfl)
 change wpList _ _ _ _ _ w.drew
 refine wpList_append_eq rfl (.tmp 22) (.tmp 25) 22 rfl rfl ?hx HRUN.out ?_
 case hx =>
  show Value.slice _ _ _ = _
  rw [← HAD.out]
  split <;> rfl
 have hnl : n < l0.length := by have := HN.out; omega
 have hnc : ¬ cap = n := by omega
 clear hjc hbe hijl hic
 have hcr := HCLR.out
 have hlen : (l0.eraseIdx i).length = n := by rw [List.length_eraseIdx, if_pos hi]; have := HN.out; omega
 have HLEN := Aside0.mk hlen
 clear hlen
 have HEND : Aside0 (Kd.R k35 35 w3 base (fun _ => True) (.slice (some ⟨g, 0, none⟩) n cap) (l0.eraseIdx i) ∧ w.grownBy w3 (some g)) := ⟨by
  constructor
  ·
   refine R_of_cells ⟨cellsOf_length _, .inr ⟨g, cap, cur3, by rw [HLEN.out], HB.out, HC3.out, ?_, HMX.out, HFIN.out.1, ?_⟩⟩ (fun _ _ => trivial)
   ·
    rw [HLEN.out]; omega
   ·
    rw [HLEN.out]; exact HFIN.out.2
  ·
   have h1 : w.grownBy w.drew (some g) := ⟨rfl, rfl, rfl, Nat.le_refl _, fun _ _ _ => rfl⟩
   exact ⟨HG3.out.os.trans HGR.out.os, HG3.out.tape.trans HGR.out.tape, HG3.out.output.trans HGR.out.output, Nat.le_trans HGR.out.size HG3.out.size, fun k hk hne => (HG3.out.block k (Nat.lt_of_lt_of_le hk HGR.out.size) hne).trans (HGR.out.block k hk hne)⟩⟩
 go_wp2
 all_goals
  go_ret
  first | exact ⟨_, rfl, HEND.out⟩ | (obtain rfl : cap = j := (by assumption); exact ⟨_, rfl, HEND.out⟩)
abbrev vFault (x : Fault) : Value := .agg #[.int .i64 x.f0, .int .i64 x.f1]
theorem fault_at {w wr : World} {A : Option Addr} {n : Nat} {xs : List Fault} (h : Kd.C k44 w A n xs) (hb : Below w.heap.size w wr) (k : Nat) (x : Fault) (hk : xs[k]? = some x) :
  ∃ ad, A = some ad ∧ wr.cell? (ad.add (k * 2)) = some (.int .i64 x.f0) ∧ wr.cell? ⟨(ad.add (k * 2)).block, (ad.add (k * 2)).off + 1, none⟩ = some (.int .i64 x.f1) := by
 have hl := Kd.C_len h
 have hlt := (List.getElem?_eq_some_iff.1 hk).1
 obtain ⟨ad, e, h0, h1⟩ := at_T44 h (k : Int) (by omega) (by omega)
 have hd : rd_T44 xs (k : Int) = x := by simp [rd_T44, hk]
 rw [hd] at h0 h1
 simp only [Int.toNat_natCast] at h0 h1
 exact ⟨ad, e, pw_cell_below hb h0, pw_cell_below hb h1⟩
set_option maxRecDepth 100000 in
set_option maxHeartbeats 1000000 in
theorem bkFault_in (n lp Bs n₀ : Nat) (E : Nat → Prop) (A : Option Addr) (c0 : Nat) (xs : List Fault) (hn : 1 ≤ n) (hm : xs.length ≤ 1000000) (J Jx : Nat → World → Prop)
  (hY : ∀ k x W, (bk xs)[k]? = some x → J k W → YieldAt Fence.wide (n - 1) Tryz.prog lp #[.int .i64 ((x : Nat × Fault).1 : Int), vFault x.2] W fun e W' =>
   (e = .returned (.bool true) ∧ J (k + 1) W' ∧ KpE n₀ E W W') ∨ (e = .returned (.bool false) ∧ Jx (k + 1) W'))
  (W : World) (hBs : W.cell? ⟨Bs, 0, none⟩ = some (.slice A xs.length c0)) (hB0 : Bs < n₀) (hBE : ¬ E Bs) (hA : ∀ ad, A = some ad → 0 < xs.length → ad.block < n₀ ∧ ¬ E ad.block) (hr : Kd.C k44 W A xs.length xs) (h0 : J 0 W) :
  CallsIn Fence.wide n Tryz.prog 50 #[.func (.yield lp) #[] #[], .pointer (some ⟨Bs, 0, none⟩)] W fun e W' => (∃ v, e = .returned v) ∧
   (J (bk xs).length W' ∨ ∃ k, k ≤ (bk xs).length ∧ Jx k W') := by
 have hu := Tryz.underlying44
 have HY := Aside0.mk hY
 have HR := Aside0.mk hr
 have HA := Aside0.mk hA
 have HE := Aside0.mk hBE
 clear hY hr hA hBE
 refine callsIn_of_wp Tryz.func50 rfl trivial ?_ rfl
 simp only [Tryz.ntmps50, List.size_toArray, List.length_cons, List.length_nil, Nat.reduceAdd, Nat.reduceSub, Array.replicate_succ, Array.replicate_zero, List.push_toArray, List.append_toArray, List.nil_append, List.cons_append]
 gi_wp2
 gi_loopw [3] (fun i wr => ∃ k : Nat, k ≤ xs.length ∧ i = .int .i64 ((xs.length : Int) - 1 - k) ∧ Aside0 (J k wr) ∧ Aside0 (KpE n₀ E W wr)) (fun i _ => (intOf i + 1).toNat)
 case atStart => exact ⟨0, Nat.zero_le _, by simp, ⟨h0⟩, ⟨KpE.refl _ _ _⟩⟩
 case round =>
  obtain ⟨k, hk, rfl, hJ, hK⟩ := hrel
  have hs : wr.cell? ⟨Bs, 0, none⟩ = some (.slice A xs.length c0) := hK.out.cell (p := ⟨Bs, 0, none⟩) hB0 HE.out hBs
  by_cases hlt : k < xs.length
  ·
   obtain ⟨x, hx⟩ : ∃ x, Aside0 (xs[xs.length - 1 - k]? = some x) := ⟨_, ⟨List.getElem?_eq_getElem (by omega)⟩⟩
   obtain ⟨ad, e, g0, g1⟩ := fault_at HR.out (Below.refl _ _) _ x hx.out
   subst e
   obtain ⟨ha, hae⟩ := HA.out ad rfl (by omega)
   have hbl : (ad.add ((xs.length - 1 - k) * 2)).block = ad.block := by unfold Addr.add; split <;> rfl
   replace g0 := hK.out.cell (p := ad.add ((xs.length - 1 - k) * 2)) (by rw [hbl]; exact ha) (by rw [hbl]; exact hae) g0
   replace g1 := hK.out.cell (p := ⟨_, _, none⟩) (by simp only [hbl]; exact ha) (by simp only [hbl]; exact hae) g1
   clear hbl hae ha
   have hx' : x = xs[xs.length - 1 - k]'(by omega) := by have := hx.out; rw [List.getElem?_eq_getElem (by omega)] at this; exact (Option.some.inj this).symm
   have HT : Aside0 ((bk xs)[k]? = some (xs.length - 1 - k, x)) := ⟨by rw [bk_get xs k hlt, hx']⟩
   clear hx'
   have hi : ((xs.length : Int) - 1 - k) = ((xs.length - 1 - k : Nat) : Int) := by omega
   rw [hi]
   obtain ⟨j, hj⟩ : ∃ j, Aside0 (j = xs.length - 1 - k) := ⟨_, ⟨rfl⟩⟩
   rw [← hj.out] at g0 g1 ⊢
   have hjl : j < xs.length := by rw [hj.out]; omega
   obtain ⟨fn, tmps, assign, body, hy, hR⟩ := HY.out k (j, x) wr (by rw [hj.out]; exact HT.out) hJ.out
   dsimp only at hy
   clear hi
   gi_wp2
   refine hR.mono ?_
   rintro e W3 (⟨rfl, hJ3, hk3⟩ | ⟨rfl, hJx3⟩)
   ·
    gi_wp2
    go_roundw
    case rel => exact ⟨k + 1, by omega, by rw [hj.out]; (try congr 1); (try omega), ⟨hJ3⟩, ⟨hK.out.trans hk3⟩⟩
    case measure => simp [intOf] <;> omega
   ·
    gi_wp2
    refine bodyPost_ret (results_none rfl _ _ _) rfl ?_
    exact ⟨⟨_, rfl⟩, .inr ⟨k + 1, by rw [bk_length]; omega, hJx3⟩⟩
  ·
   obtain rfl : k = xs.length := by omega
   have hi : ((xs.length : Int) - 1 - xs.length) = -1 := by omega
   rw [hi]
   clear hi
   gi_wp2
   go_end0
   exact ⟨⟨_, rfl⟩, .inl (by rw [bk_length]; exact hJ.out)⟩
set_option maxHeartbeats 400000 in
theorem BackwardFault.calls (A : Option Addr) (n c0 : Nat) (w : World) :
  Calls Tryz.prog 30 #[.slice A n c0] w fun e w' => e = .returned (.func (.func 50) #[] #[.pointer (some ⟨w.heap.size, 0, none⟩)]) ∧ w' = w.alloc (.cells #[.slice A n c0] 46) := by
 go_enter Tryz.func30, Tryz.ntmps30
 go_wp2
 go_ret
 exact ⟨rfl, rfl⟩
/-- The list without the nodes whose indices come, one after the other. -/
def dropAt (l : List Node) (pre : List (Nat × Fault)) : List Node := pre.foldl (fun m p => m.eraseIdx p.2.f0.toNat) l
theorem dropAt_snoc (l : List Node) (pre : List (Nat × Fault)) (x : Nat × Fault) : dropAt l (pre ++ [x]) = (dropAt l pre).eraseIdx x.2.f0.toNat := by simp [dropAt]
def dropFaults (l : List Node) : List Node := dropAt l (bk (faultsOf l))
def wholeN : Nat → List Node → List Node
 | 0, l => l
 | k + 1, l => if faultsOf l = [] then l else wholeN k (dropFaults l)
def wholeOf (l : List Node) : List Node := wholeN l.length l
theorem faults_inc (l : List Node) (m : List (Dot × Nat)) (k : Nat) : (faultsUpto l m k).Pairwise (fun a b => a.f0 < b.f0) ∧ ∀ f ∈ faultsUpto l m k, 0 ≤ f.f0 ∧ f.f0 < k := by
 induction k with
 | zero => simp [faultsUpto]
 | succ k ih =>
  rw [faultsUpto_succ]
  split
  ·
   rw [List.append_nil]
   exact ⟨ih.1, fun f hf => ⟨(ih.2 f hf).1, by have := (ih.2 f hf).2; omega⟩⟩
  ·
   refine ⟨List.pairwise_append.2 ⟨ih.1, by simp, fun a ha b hb => ?_⟩, fun f hf => ?_⟩
   ·
    simp at hb; subst hb; exact (ih.2 a ha).2
   ·
    rcases List.mem_append.1 hf with h | h
    ·
     exact ⟨(ih.2 f h).1, by have := (ih.2 f h).2; omega⟩
    ·
     simp at h; subst h; exact ⟨by simp, by show (k : Int) < ((k + 1 : Nat) : Int); omega⟩
/-- Behind the first faults from behind, each index that is still to come stands where it stood. -/
theorem dropAt_length (l : List Node) (fs : List Fault) (hp : fs.Pairwise (fun a b => a.f0 < b.f0)) (hr : ∀ f ∈ fs, 0 ≤ f.f0 ∧ f.f0 < l.length) (k : Nat) (hk : k ≤ fs.length) :
  (dropAt l ((bk fs).take k)).length = l.length - k ∧ ∀ j (hj : j < fs.length), j + k < fs.length → (fs[j]).f0 < ((l.length - k : Nat) : Int) := by
 induction k with
 | zero => exact ⟨by simp [dropAt], fun j hj _ => (hr _ (List.getElem_mem hj)).2⟩
 | succ k ih =>
  obtain ⟨h1, h2⟩ := ih (by omega)
  have hlast := h2 (fs.length - 1 - k) (by omega) (by omega)
  have h0 := (hr _ (List.getElem_mem (show fs.length - 1 - k < fs.length by omega))).1
  refine ⟨?_, fun j hj hjk => ?_⟩
  ·
   rw [bk_take_succ fs k (by omega), dropAt_snoc, List.length_eraseIdx, h1, if_pos (by simp only []; omega)]; omega
  ·
   have := List.pairwise_iff_getElem.1 hp j (fs.length - 1 - k) hj (by omega) (by omega)
   omega
theorem dropFaults_length (l : List Node) : (dropFaults l).length = l.length - (faultsOf l).length := by
 have h := faults_inc l (atOf (bk l)) l.length
 have := (dropAt_length l (faultsOf l) h.1 h.2 (faultsOf l).length (Nat.le_refl _)).1
 rwa [List.take_of_length_le (by rw [bk_length]; exact Nat.le_refl _)] at this
theorem faultsOf_length (l : List Node) : (faultsOf l).length ≤ l.length := faultsUpto_length _ _ _
theorem wholeN_more (l : List Node) : ∀ k j, l.length ≤ k → l.length ≤ j → wholeN k l = wholeN j l := by
 intro k
 induction k generalizing l with
 | zero =>
  intro j hk _
  have hl : l = [] := List.length_eq_zero_iff.1 (by omega)
  subst hl
  cases j with
  | zero => rfl
  | succ j => rw [wholeN, wholeN, if_pos (by rfl)]
 | succ k ih =>
  intro j hk hj
  cases j with
  | zero =>
   have hl : l = [] := List.length_eq_zero_iff.1 (by omega)
   subst hl
   rw [wholeN, wholeN, if_pos (by rfl)]
  | succ j =>
   rw [wholeN, wholeN]
   split
   ·
    rfl
   ·
    rename_i hf
    have hpos : 0 < (faultsOf l).length := List.length_pos_iff.2 hf
    have hle := faultsOf_length l
    have hd := dropFaults_length l
    exact ih _ j (by omega) (by omega)
theorem wholeOf_nil {l : List Node} (h : faultsOf l = []) : wholeOf l = l := by
 unfold wholeOf
 cases hl : l.length with
 | zero => rfl
 | succ k => rw [wholeN, if_pos h]
theorem wholeOf_step {l : List Node} (h : ¬ faultsOf l = []) : wholeOf l = wholeOf (dropFaults l) := by
 have hpos : 0 < (faultsOf l).length := List.length_pos_iff.2 h
 have hle := faultsOf_length l
 have hd := dropFaults_length l
 unfold wholeOf
 rw [wholeN_more l l.length (l.length + 1) (Nat.le_refl _) (by omega), wholeN, if_neg h]
 exact wholeN_more _ _ _ (by omega) (Nat.le_refl _)
theorem KpE.grown2 {n : Nat} {E : Nat → Prop} {W W' : World} {row : Option Nat} (h : W.grownBy W' row) (hr : ∀ r, row = some r → r < n → E r) (hn : n ≤ W.heap.size) : KpE n E W W' :=
 ⟨h.size, fun i hi he => h.block i (by omega) (fun e => he (hr i e.symm hi))⟩
/-- The blocks of W1 that hold nodes or a slice of nodes. -/
def NodeRows (W1 : World) (i : Nat) : Prop := ∃ cells t, W1.heap[i]? = some (.cells cells t (0, 0)) ∧ (t = 35 ∨ t = 22)
theorem NodeRows.of {W1 W : World} {i : Nat} {cells : Array Value} {t : Nat} (hK : KpE W1.heap.size (NodeRows W1) W1 W) (hi : i < W1.heap.size) (h : W.heap[i]? = some (.cells cells t (0, 0))) (ht : t = 35 ∨ t = 22) : NodeRows W1 i :=
 Classical.byContradiction fun hn => hn ⟨cells, t, (hK.2 i hi hn).symm.trans h, ht⟩
set_option maxHeartbeats 1000000 in
set_option maxRecDepth 100000 in
theorem Whole.walk (A0 : Option Addr) (c0 : Nat) (l0 : List Node) (w : World) (hr0 : Kd.C k35 w A0 l0.length l0) (hc0 : l0.length ≤ c0) (hl : l0.length ≤ 1000000) :
  Calls Tryz.prog 10 #[.slice A0 l0.length c0] w fun e w' => ∃ v0_ : Value, e = .returned (.tuple #[v0_, .int .i64 (if storeOk l0 then 0 else 2)]) ∧ Kd.R k35 35 w' w.heap.size (fun _ => True) v0_ (if storeOk l0 then wholeOf l0 else []) ∧ Below w.heap.size w w' := by
 have HR := Aside0.mk hr0
 have HC := Aside0.mk hc0
 clear hr0 hc0
 obtain ⟨b, Hb⟩ : ∃ b, Aside0 (storeOk l0 = b) := ⟨_, ⟨rfl⟩⟩
 rw [Hb.out]
 refine calls_of_wp_m Tryz.func10 rfl ?_
 simp only [Tryz.ntmps10, List.size_toArray, List.length_cons, List.length_nil, Nat.reduceAdd, Nat.reduceSub, Array.replicate_succ, Array.replicate_zero, List.push_toArray, List.append_toArray, List.nil_append, List.cons_append]
 go_wp2_with fail
 refine (store_Valid.calls A0 c0 l0 b _ HR.out HC.out (by unfold store_Valid.f; rw [if_pos hl, Hb.out])).mono ?_
 rintro e w1 ⟨rfl, hb1⟩
 cases b with
 | false =>
  go_wp2_with fail
  exact ⟨_, results_tmp2 rfl _ _ _, _, rfl, Kd.R_nil _ _ _ _ _, hb1⟩
 | true =>
  have HW1 := Aside0.mk (Kd.C_below HR.out hb1)
  have HB1 := Aside0.mk hb1
  clear hb1
  go_wp2_with fail
  refine (CloneNode.calls A0 c0 l0 _ HW1.out hl).mono ?_
  rintro e w2 ⟨v, rfl, ho2, hb2⟩
  obtain ⟨A2, c2, rfl⟩ := Kd.R_slice ho2
  obtain ⟨n2, Hn2⟩ : ∃ n, Aside0 (l0.length = n) := ⟨_, ⟨rfl⟩⟩
  rw [Hn2.out] at ho2 ⊢
  have HO2 := Aside0.mk ho2
  have HB2 := Aside0.mk hb2
  clear ho2 hb2
  go_wp2_with fail
  have hB := blk_new w2 (.cells #[.slice A2 n2 c2] 22)
  have hsz : (w2.alloc (.cells #[.slice A2 n2 c2] 22)).heap.size = w2.heap.size + 1 := by simp
  have ho3 := Kd.R_lower (Kd.R_below HO2.out ((Below.refl _ w2).alloc (Nat.le_refl _) (.cells #[.slice A2 n2 c2] 22))) HB1.out.size
  have hb3 : Below w.heap.size w (w2.alloc (.cells #[.slice A2 n2 c2] 22)) := below_alloc (below_then HB1.out HB1.out.size HB2.out) _
  have hbx : w.heap.size ≤ w2.heap.size := Nat.le_trans HB1.out.size HB2.out.size
  generalize w2.alloc (.cells #[.slice A2 n2 c2] 22) = W3 at *
  obtain ⟨B, HBX⟩ : ∃ B, Aside0 (w2.heap.size = B) := ⟨_, ⟨rfl⟩⟩
  rw [HBX.out] at hB hbx ⊢
  have HBB := Aside0.mk hB
  have HO3 := Aside0.mk ho3
  have HB3 := Aside0.mk hb3
  have HX0 := Aside0.mk hbx
  have HL := Aside0.mk hl
  clear hB hsz ho3 hb3 hbx HO2 HB2 HB1 HBX HW1 hl
  refine wp_loop_ghost_k (fun k a W => ∃ (ds : List Deferred) (u5 u13 u14 u15 u16 u17 u19 u20 : Value) (m : List Node) (Av : Option Addr) (nm cv : Nat), Aside0 (m.length = nm) ∧ Aside0 (W.heap[B]? = some (.cells #[.slice Av nm cv] 22 (0, 0))) ∧ Aside0 (Kd.R k35 35 W w.heap.size (fun _ => True) (.slice Av nm cv) m) ∧ Aside0 (Below w.heap.size w W) ∧ Aside0 (Marks w.heap.size ds W) ∧ Aside0 (wholeOf m = wholeOf l0) ∧ Aside0 (m.length ≤ 1000000) ∧ Aside0 (k = nm) ∧
   a = { tmps := #[.slice A0 n2 c0, undef, .slice none 0 0, .int .i64 0, .pointer (some ⟨B, 0, none⟩), u5, undef, undef, .slice A0 n2 c0, .bool true, .bool false, .slice A0 n2 c0, .slice A2 n2 c2, u13, u14, u15, u16, u17, undef, u19, u20, undef, undef, undef, undef, undef, undef, undef, undef, undef], defers := ds }) n2 ⟨[], _, _, _, _, _, _, _, _, l0, A2, n2, c2, Hn2, HBB, HO3, HB3, ⟨Marks.nil _ _⟩, ⟨rfl⟩, HL, ⟨rfl⟩, rfl⟩ ?_
  rintro k a wr ⟨ds, u5, u13, u14, u15, u16, u17, u19, u20, m, Av, nm, cv, HNM, HBB, HO, HBW, HM, HWH, HML, HK, rfl⟩
  intro J K hJ hKK
  have hc0 : wr.cell? ⟨B, 0, none⟩ = _ := (blk_cell HBB.out 0).trans rfl
  go_wp2_with fail
  obtain ⟨Av', cv', e, hcv, hC⟩ := Kd.R_reads HO.out
  rw [HNM.out] at e hcv hC
  cases e
  have HC2 := Aside0.mk hC
  have HCV := Aside0.mk hcv
  clear hC hcv
  have hf := Faults.walk Av cv m wr (by rw [HNM.out]; exact HC2.out) (by rw [HNM.out]; exact HCV.out) HML.out
  rw [HNM.out] at hf
  refine hf.mono ?_
  clear hf
  rintro e w4 ⟨vf, rfl, hof, hb4⟩
  obtain ⟨Af, cf, rfl⟩ := Kd.R_slice hof
  obtain ⟨fs, Hfs⟩ : ∃ fs, Aside0 (faultsOf m = fs) := ⟨_, ⟨rfl⟩⟩
  rw [Hfs.out] at hof ⊢
  obtain ⟨nf, Hnf⟩ : ∃ n, Aside0 (fs.length = n) := ⟨_, ⟨rfl⟩⟩
  rw [Hnf.out] at hof ⊢
  have HO := Aside0.mk (Kd.R_below HO.out hb4)
  have HBB := Aside0.mk (blk_keep HBB.out hb4)
  have HBW := Aside0.mk (below_more HBW.out hb4)
  have HM := Aside0.mk (HM.out.below hb4)
  have HOF := Aside0.mk hof
  have HSZ := Aside0.mk hb4.size
  have hc1 : w4.cell? ⟨B, 0, none⟩ = _ := (blk_cell HBB.out 0).trans rfl
  clear hof hb4 hc0
  by_cases hz : (nf : Int) = 0
  ·
   have hzb : ((nf : Int) == 0) = true := beq_iff_eq.2 hz
   have HZ0 := Aside0.mk hz
   clear hz
   go_wp2
   exact leaves_of_marks (results_tmp2 rfl _ _) _ _ HM.out (fun W' hm => ⟨_, rfl, R_onlyMarks (by rw [← HWH.out, wholeOf_nil (by rw [Hfs.out]; exact List.length_eq_zero_iff.1 (by have := Hnf.out; have := HZ0.out; omega))]; exact HO.out) hm, below_onlyMarks HBW.out hm⟩)
  ·
   have hzb : ((nf : Int) == 0) = false := beq_eq_false_iff_ne.2 hz
   have HZ := Aside0.mk hz
   clear hz
   go_wp2_with fail
   refine (BackwardFault.calls _ _ _ _).mono ?_
   rintro e w5 ⟨rfl, rfl⟩
   go_wp2_with fail
   have hBS := blk_new w4 (.cells #[.slice Af nf cf] 46)
   have hb5 : Below w4.heap.size w4 (w4.alloc (.cells #[.slice Af nf cf] 46)) := (Below.refl _ w4).alloc (Nat.le_refl _) _
   have hsz5 : (w4.alloc (.cells #[.slice Af nf cf] 46)).heap.size = w4.heap.size + 1 := by simp
   clear hc1
   generalize hW1 : w4.alloc (.cells #[.slice Af nf cf] 46) = W1 at *
   have HO1 := Aside0.mk (Kd.R_below HO.out hb5)
   have HBB1 := Aside0.mk (blk_keep HBB.out hb5)
   have HBW1 := Aside0.mk (below_more HBW.out hb5)
   have HM1 := Aside0.mk (HM.out.below hb5)
   have HOF1 := Aside0.mk (Kd.R_below HOF.out hb5)
   have HBS := Aside0.mk hBS
   have HS5 := Aside0.mk hsz5
   obtain ⟨_, _, e, _, hC5⟩ := Kd.R_reads HOF1.out
   rw [Hnf.out] at e hC5
   cases e
   have HC5 := Aside0.mk hC5
   have HTY := Aside0.mk (Kd.R_typed HOF1.out)
   have HN1 : Aside0 (fs.length ≤ m.length) := ⟨by rw [← Hfs.out]; exact faultsOf_length m⟩
   have HINC : Aside0 (fs.Pairwise (fun a b => a.f0 < b.f0) ∧ ∀ f ∈ fs, 0 ≤ f.f0 ∧ f.f0 < m.length) := ⟨by rw [← Hfs.out]; exact faults_inc m _ _⟩
   clear hBS hb5 hsz5 hC5 hW1 HO HBB HBW HM HOF
   refine wpIn_wide.1 (ListRange.wpIn_range (n := 9) (F := Fence.wide) rfl (by decide) (gf := 50) (lb := #[.pointer (some ⟨w4.heap.size, 0, none⟩)]) rfl trivial Tryz.call50
    (encs := fun x : Nat × Fault => #[.int .i64 (x.1 : Int), vFault x.2]) (Kp := KpE W1.heap.size (NodeRows W1)) (L := bk fs) (w0 := W1)
    (fun lp J Jx W hWW _ _ hY h0 => bkFault_in 8 lp w4.heap.size W1.heap.size (NodeRows W1) Af cf fs (by decide) (Nat.le_trans HN1.out HML.out) J Jx hY W (by rw [Hnf.out]; exact (hWW.cell (p := ⟨w4.heap.size, 0, none⟩) (by show w4.heap.size < _; have := HS5.out; omega)).trans ((blk_cell HBS.out 0).trans rfl)) (by have := HS5.out; omega)
     (by rintro ⟨cells, t, h1, h2⟩; rw [HBS.out] at h1; cases h1; revert h2; decide)
     (fun ad e hp => by
      obtain ⟨g, cap, e2, _, hlt, cells, hce⟩ := Kd.R_form HOF1.out hp
      cases e2; cases e
      exact ⟨hlt, by rintro ⟨cells, t, h1, h2⟩; rw [hce] at h1; cases h1; revert h2; decide⟩)
     (by rw [Hnf.out]; exact Kd.C_below HC5.out hWW) h0)
    (fun h k => h.trans k) (fun W l o o' hl _ _ _ => KpE.put (Nat.le_refl _) W l o o' hl) (Below.refl _ _) (fun _ => rfl)
    (fun k W => ∃ (Av : Option Addr) (nm cv : Nat), (dropAt m ((bk fs).take k)).length = nm ∧ W.heap[B]? = some (.cells #[.slice Av nm cv] 22 (0, 0)) ∧ Kd.R k35 35 W w.heap.size (fun _ => True) (.slice Av nm cv) (dropAt m ((bk fs).take k)) ∧ Below w.heap.size w W ∧ KpE W1.heap.size (NodeRows W1) W1 W)
    (fun _ _ _ => False)
    ?own (fun _ _ _ _ _ hs _ _ => hs) ⟨Av, nm, cv, HNM.out, HBB1.out, HO1.out, HBW1.out, KpE.refl _ _ _⟩
    (fun x a' W => ∃ Bx, W1.heap.size ≤ Bx ∧ W.heap[Bx]? = some (.cells #[.int .i64 x.2.f0, .int .i64 x.2.f1] 44 (0, 0)) ∧ a' = { tmps := #[.slice A0 n2 c0, undef, .slice none 0 0, .int .i64 0, .pointer (some ⟨B, 0, none⟩), .slice Af nf cf, undef, .pointer (some ⟨Bx, 0, none⟩), .slice A0 n2 c0, .bool true, .bool false, .slice A0 n2 c0, .slice A2 n2 c2, .slice Av nm cv, .slice Af nf cf, .slice Af nf cf, .int .i64 nf, .bool false, undef, .slice Af nf cf, .func (.func 50) #[] #[.pointer (some ⟨w4.heap.size, 0, none⟩)], .int .i64 (x.1 : Int), vFault x.2, undef, undef, undef, undef, undef, undef, undef], defers := [] })
    (fun x a' _ W W' row hs hg hr => by
     obtain ⟨Bx, h1, h2, h3⟩ := hs
     exact ⟨Bx, h1, (hg.block Bx (blk_lt h2) (fun e => by obtain ⟨_, o, ho, hc⟩ := hr Bx e.symm; rw [h2] at ho; cases ho; cases hc)).trans h2, h3⟩)
    ?assign ?body ?done ?stop)
   case own =>
    rintro k W W' row ⟨Av, nm, cv, h1, h2, h3, h4, h5⟩ hg hr
    refine ⟨Av, nm, cv, h1, blk_own (γ := Unit) (B := W1.heap.size) (cs := fun _ => #[.slice Av nm cv]) () W W' row h2 hg hr, ?_, ?_, ?_⟩
    ·
     exact Kd.R_mono (Kd.R_grown (Kd.R_bound h3) hg (fun k hk e => by
      obtain ⟨_, _, _, q, _, cells, hh⟩ := hk
      obtain ⟨_, o, ho, hc⟩ := hr k e.symm
      rw [hh] at ho; cases ho; cases hc)) (fun _ hk => hk.1)
    ·
     exact h4.grown hg h4.size (fun k e => Nat.le_trans HBW1.out.size (hr k e).1)
    ·
     exact h5.trans (KpE.grown2 hg (fun r e hlt => by have := (hr r e).1; omega) h5.1)
   case assign =>
    rintro l k x W K hx ⟨Av, nm, cv, h1, h2, h3, h4, h5⟩ hK
    gi_wp2
    refine hK _ _ ((KeepsOthers.alloc _ _).from _) (KpE.below ((Below.refl _ W).alloc h5.1 _)) ⟨Av, nm, cv, h1, blk_alloc h2 _, Kd.R_below h3 ((Below.refl _ W).alloc (Nat.le_refl _) _), h4.alloc h4.size _, h5.trans (KpE.below ((Below.refl _ W).alloc h5.1 _))⟩ ⟨W.heap.size, h5.1, blk_new _ _, rfl⟩
   case body =>
    rintro l k x a' W hx hl2 ⟨rr, hrr⟩ ⟨Av', nm', cv', h1, h2, h3, h4, h5⟩ ⟨Bx, hx1, hx2, rfl⟩
    have hc0 : W.cell? ⟨B, 0, none⟩ = _ := (blk_cell h2 0).trans rfl
    have hc1 : W.cell? ⟨Bx, 0, none⟩ = _ := (blk_cell hx2 0).trans rfl
    have hk : k < fs.length := by have := (List.getElem?_eq_some_iff.1 hx).1; rwa [bk_length] at this
    have hxe : x = (fs.length - 1 - k, fs[fs.length - 1 - k]'(by omega)) := by rw [bk_get fs k hk] at hx; exact (Option.some.inj hx).symm
    have hda := dropAt_length m fs HINC.out.1 HINC.out.2 k (by omega)
    have hi0 : 0 ≤ x.2.f0 := by rw [hxe]; exact (HINC.out.2 _ (List.getElem_mem _)).1
    have hi1 : x.2.f0 < ((m.length - k : Nat) : Int) := by rw [hxe]; exact hda.2 _ (by omega) (by omega)
    have hm0 := HML.out
    obtain ⟨i, Hi⟩ : ∃ i : Nat, Aside0 (x.2.f0 = i) := ⟨x.2.f0.toNat, ⟨by omega⟩⟩
    have hii : i < (dropAt m ((bk fs).take k)).length := by rw [hda.1]; have := Hi.out; omega
    have hw : wrap64 ((i : Int) + 1) = ((i + 1 : Nat) : Int) := by
     have : i ≤ 1000000 := by have := Hi.out; omega
     have := (by omega : -9223372036854775808 ≤ (i : Int) + 1 ∧ (i : Int) + 1 ≤ 9223372036854775807)
     unfold wrap64; omega
    have hll : (dropAt m ((bk fs).take k)).length ≤ 1000000 := by rw [hda.1]; omega
    have HX := Aside0.mk hx
    have HDN : Aside0 (dropAt m ((bk fs).take (k + 1)) = (dropAt m ((bk fs).take k)).eraseIdx i) := ⟨by
     rw [bk_take_succ fs k hk, dropAt_snoc, ← hxe, Hi.out]; rfl⟩
    have H1 := Aside0.mk h1
    have H2 := Aside0.mk h2
    have H3 := Aside0.mk h3
    have H4 := Aside0.mk h4
    have H5 := Aside0.mk h5
    have HI := Aside0.mk hii
    have HLL := Aside0.mk hll
    have HX2 := Aside0.mk hx2
    clear hx hxe hda hi0 hi1 hm0 h1 h2 h3 h4 h5 hii hll hx2 hk
    obtain ⟨x0, x1⟩ := x
    obtain ⟨f0, f1⟩ := x1
    dsimp only at Hi hc1 ⊢
    obtain rfl := Hi.out
    gi_wp2
    rw [show ((i : Int) + 1) = ((i + 1 : Nat) : Int) from by omega]
    refine ⟨trivial, CallsIn.inRound l (CallsIn.mono (callsIn_wide.2 (DeleteNode.calls w.heap.size _ _ i (i + 1) rfl W H3.out HI.out HLL.out)) ?_)⟩
    rintro e W' ⟨v2, rfl, ho2, hg2⟩
    obtain ⟨A6, c6, rfl⟩ := Kd.R_slice ho2
    obtain ⟨n6, Hn6⟩ : ∃ n, Aside0 (((dropAt m ((bk fs).take k)).eraseIdx i).length = n) := ⟨_, ⟨rfl⟩⟩
    rw [Hn6.out] at ho2 ⊢
    have hne : some B ≠ (Value.slice Av' nm' cv').ownBlock := R_apart_obj H3.out H2.out (fun cells h => by cases h)
    have hB2 : W'.heap[B]? = some (.cells #[.slice Av' nm' cv'] 22 (0, 0)) := (hg2.block _ (blk_lt H2.out) hne).trans H2.out
    have hc3 : W'.cell? ⟨B, 0, none⟩ = _ := (blk_cell hB2 0).trans rfl
    have hfz := blk_frozen hB2 0
    have hown : ∀ r, (Value.slice Av' nm' cv').ownBlock = some r → r < W1.heap.size → NodeRows W1 r := fun r e hlt => by
     obtain ⟨cells, hc⟩ := Kd.R_typed H3.out r e
     exact NodeRows.of H5.out hlt hc (.inl rfl)
    have HK6 := Aside0.mk (KpE.grown2 hg2 hown H5.out.1)
    have HW6 := Aside0.mk (H4.out.grown hg2 H4.out.size (fun r e => by
     by_cases hr : r < w.heap.size
     ·
      exfalso
      obtain ⟨g, cap, e2, hge, _⟩ := Kd.R_form H3.out (by have := HI.out; omega)
      rw [e2] at e
      have : g = r := by simpa [Value.ownBlock] using e
      omega
     ·
      omega))
    have HKF := Aside0.mk (show KeepsFrom W1.heap.size W W' from ⟨hg2.size, fun q o hB hq hoc => by
     refine (hg2.block q (blk_lt hq) (fun e => ?_)).trans hq
     obtain ⟨cells, hc⟩ := Kd.R_typed H3.out q e.symm
     rw [hq] at hc; cases hc; cases hoc⟩)
    have HB2 := Aside0.mk hB2
    have HO2 := Aside0.mk ho2
    clear hB2 ho2 hg2 hne hown
    gi_wp2
    have hg7 := grownBy_setCell' W' B (.slice A6 n6 c6)
    have hBl : B < W1.heap.size := blk_lt HBB1.out
    refine ⟨HKF.out.trans (KeepsFrom.of_grownBy hg7 (fun j e => by cases e; exact hBl)), ?_, A6, n6, c6, ?_, blk_put HB2.out 0 _ rfl, ?_, ?_, ?_⟩
    ·
     exact HK6.out.trans (KpE.grown2 hg7 (fun r e _ => by cases e; exact ⟨_, _, HBB1.out, .inr rfl⟩) (Nat.le_trans H5.out.1 HK6.out.1))
    ·
     rw [HDN.out]; exact Hn6.out
    ·
     rw [HDN.out]; exact Kd.R_set HO2.out HB2.out (by decide) 0 _
    ·
     exact HW6.out.grown hg7 HW6.out.size (fun r e => by cases e; exact HX0.out)
    ·
     exact (H5.out.trans HK6.out).trans (KpE.grown2 hg7 (fun r e _ => by cases e; exact ⟨_, _, HBB1.out, .inr rfl⟩) (Nat.le_trans H5.out.1 HK6.out.1))
   case done =>
    rintro D W hD ⟨Av', nm', cv', h1, h2, h3, h4, h5⟩ hDK
    have htk : (bk fs).take (bk fs).length = bk fs := List.take_length
    rw [htk] at h1 h3
    have hdf : dropAt m (bk fs) = dropFaults m := by unfold dropFaults; rw [Hfs.out]
    rw [hdf] at h1 h3
    have hfl := dropFaults_length m
    rw [Hfs.out] at hfl
    have hn1 := HN1.out
    have hz := HZ.out
    have hnf := Hnf.out
    have hml := HML.out
    have hnm := HNM.out
    have hkk := HK.out
    have hne : ¬ faultsOf m = [] := by rw [Hfs.out]; intro e; rw [e] at hnf; simp at hnf; omega
    show K _ _
    refine hKK _ _ (Handed.intro nm' (by omega) (hJ _ _ _ ⟨_, _, _, _, _, _, _, _, _, dropFaults m, Av', nm', cv', ⟨h1⟩, ⟨h2⟩, ⟨h3⟩, ⟨h4⟩, ⟨?_⟩, ⟨(wholeOf_step hne).symm.trans HWH.out⟩, ⟨by omega⟩, ⟨rfl⟩, rfl⟩))
    obtain ⟨Ds, e, hnd, hDs⟩ := HM1.out
    refine ⟨D :: Ds, by rw [e]; rfl, List.nodup_cons.2 ⟨fun hmem => by have := blk_lt (hDs D hmem).2; omega, hnd⟩, fun E hE => ?_⟩
    rcases List.mem_cons.1 hE with rfl | hE
    ·
     exact ⟨Nat.le_trans HBW1.out.size hD, hDK⟩
    ·
     refine ⟨(hDs E hE).1, (h5.2 E (blk_lt (hDs E hE).2) ?_).trans (hDs E hE).2⟩
     rintro ⟨cells, t, hh, _⟩
     rw [(hDs E hE).2] at hh; cases hh
   case stop =>
    rintro D c k W _ _ h _
    exact h.elim
def shape_Whole.f (l0 : List Node) : Option (List Node × Int) := if l0.length ≤ 1000000 then some (if storeOk l0 then (wholeOf l0, 0) else ([], 2)) else none
theorem shape_Whole.calls (A0 : Option Addr) (c0 : Nat) (l0 : List Node) (r0 : List Node) (r1 : Int) (w : World) (hr0 : Kd.C k35 w A0 l0.length l0) (hc0 : l0.length ≤ c0) (h : shape_Whole.f l0 = some (r0, r1)) :
  Calls Tryz.prog 10 #[.slice A0 l0.length c0] w fun e w' => ∃ v0_ : Value, e = .returned (.tuple #[v0_, .int .i64 r1]) ∧ Kd.R k35 35 w' w.heap.size (fun _ => True) v0_ r0 ∧ Below w.heap.size w w' := by
 unfold shape_Whole.f at h
 by_cases hl : l0.length ≤ 1000000
 ·
  rw [if_pos hl] at h
  have hw := Whole.walk A0 c0 l0 w hr0 hc0 hl
  by_cases hs : storeOk l0 = true
  ·
   rw [if_pos hs] at h
   obtain ⟨rfl, rfl⟩ := Prod.mk.inj (Option.some.inj h)
   rw [if_pos hs, if_pos hs] at hw
   exact hw
  ·
   rw [if_neg hs] at h
   obtain ⟨rfl, rfl⟩ := Prod.mk.inj (Option.some.inj h)
   rw [if_neg hs, if_neg hs] at hw
   exact hw
 ·
  rw [if_neg hl] at h; cases h
end
end Go.Proofs.YtdheokololpnbaaGreatDoor.PWalk
end
section
namespace Go.AnyOrder
variable {P : Program} {ops : Array Oper} {Q : Exit → Act → World → Prop} {md : Region.Mode}
/-- How many are still to come. -/
def todo (n : Nat) (L : Array Bool) : Nat := (List.range n).countP fun i => !L.getD i true
theorem countP_lt {p q : Nat → Bool} : ∀ l : List Nat, (∀ x ∈ l, q x = true → p x = true) → (∃ x ∈ l, p x = true ∧ q x = false) → l.countP q < l.countP p
 | [], _, h => by simp at h
 | y :: l, hpq, h => by
  have hle : l.countP q ≤ l.countP p := List.countP_mono_left fun x hx => hpq x (List.mem_cons_of_mem _ hx)
  have hy := hpq y List.mem_cons_self
  rw [List.countP_cons, List.countP_cons]
  obtain ⟨x, hx, h1, h2⟩ := h
  rcases List.mem_cons.1 hx with rfl | hx
  ·
   rw [h1, h2]; simp; omega
  ·
   have := countP_lt l (fun x hx => hpq x (List.mem_cons_of_mem _ hx)) ⟨x, hx, h1, h2⟩
   by_cases hq : q y = true
   ·
    rw [hq, hy hq]; simp; omega
   ·
    have e : (if q y = true then 1 else 0) = 0 := if_neg hq
    rw [e]; omega
theorem todo_set {n i : Nat} {L : Array Bool} (hi : i < n) (h : L.getD i true = false) : todo n (L.setIfInBounds i true) < todo n L := by
 refine countP_lt _ (fun x _ hx => ?_) ⟨i, List.mem_range.2 hi, by simp [h], ?_⟩
 ·
  by_cases e : x = i
  ·
   subst e; simp [h]
  ·
   simpa [Array.getD_eq_getD_getElem?, Array.getElem?_setIfInBounds, Ne.symm e] using hx
 ·
  simp [Array.getD_eq_getD_getElem?, Array.getElem?_setIfInBounds]
  split <;> rfl
theorem mem_ready {L : Array Bool} {i : Nat} (h : i ∈ Region.ready md ops L) : i < ops.size ∧ L.getD i true = false ∧ (((ops[i]?).map (·.after.all fun e => !Region.binds md e || L.getD e.on false)).getD false) = true := by
 unfold Region.ready at h
 obtain ⟨h1, h2⟩ := List.mem_filter.1 h
 simp only [Bool.and_eq_true, Bool.not_eq_true'] at h2
 exact ⟨List.mem_range.1 h1, h2⟩
/-- What an operation that may come up waits for has come up. -/
theorem dep {L : Array Bool} {i q : Nat} {o : Oper} {e : Edge} (h : i ∈ Region.ready md ops L) (ho : ops[i]? = some o) (he : o.after[q]? = some e) (hb : Region.binds md e = true) : L.getD e.on false = true := by
 obtain ⟨_, _, h3⟩ := mem_ready h
 rw [ho] at h3
 simp only [Option.map_some, Option.getD_some] at h3
 rw [Array.all_eq_true'] at h3
 have := h3 e (Array.mem_of_getElem? he)
 rw [hb] at this
 exact this
theorem ready_nil {L : Array Bool} (h : todo ops.size L = 0) : Region.ready md ops L = [] := by
 rw [List.eq_nil_iff_forall_not_mem]
 intro i hi
 obtain ⟨h1, h2, _⟩ := mem_ready hi
 have := List.countP_eq_zero.1 h i (List.mem_range.2 h1)
 simp [h2] at this
theorem wpAny_inv (Inv : Array Bool → Act → World → Prop)
  (step : ∀ L a w i, Inv L a w → i ∈ Region.ready md ops L → ∀ K : Act → World → Prop, (∀ a' w', Inv (L.setIfInBounds i true) a' w' → K a' w') → wpOp P ops Q i K a w)
  (last : ∀ L a w, Inv L a w → Region.ready md ops L = [] → Q .normal a w) :
  ∀ (fuel : Nat) (L : Array Bool) (a : Act) (w : World), todo ops.size L ≤ fuel → Inv L a w → wpAny P md ops Q fuel L a w := by
 intro fuel
 induction fuel with
 | zero => intro L a w h hi; exact ⟨ready_nil (by omega), last _ _ _ hi (ready_nil (by omega))⟩
 | succ fuel ih =>
  intro L a w h hi
  refine ⟨fun hr => last _ _ _ hi hr, fun i hmem => step L a w i hi hmem _ fun a' w' hi' => ih _ _ _ ?_ hi'⟩
  have := mem_ready hmem
  have := todo_set this.1 this.2.1
  omega
/-- A region that draws. -/
theorem wp_region {id : Nat} {a : Act} {w : World} (hm : P.follows .mixedOrders = true) (Inv : Array Bool → Act → World → Prop)
  (start : Inv (Array.replicate ops.size false) a w.drew)
  (step : ∀ L a w i, Inv L a w → i ∈ Region.ready .any ops L → ∀ K : Act → World → Prop, (∀ a' w', Inv (L.setIfInBounds i true) a' w' → K a' w') → wpOp P ops Q i K a w)
  (last : ∀ L a w, Inv L a w → Region.ready .any ops L = [] → Q .normal a w) : (Code.region id ops true).wp P Q a w := by
 refine wp_region_any hm (wpAny_inv Inv step last _ _ _ _ ?_ start)
 exact Nat.le_trans List.countP_le_length (by simp)
/-- An operation that is to be carried out. -/
theorem wpOp_go {i : Nat} {o : Oper} {K : Act → World → Prop} {a : Act} {w : World} (ho : ops[i]? = some o) (hw : Region.wanted o (yielded ops a.tmps) = true) (h : o.wp P a w K Q) : wpOp P ops Q i K a w := by
 unfold wpOp; rw [ho]; simp only [hw, if_true]; exact .inl h
/-- One that is left out. -/
theorem wpOp_out {i : Nat} {o : Oper} {K : Act → World → Prop} {a : Act} {w : World} (ho : ops[i]? = some o) (hw : Region.wanted o (yielded ops a.tmps) = false) (h : K (a.put o.dst undef) w) : wpOp P ops Q i K a w := by
 unfold wpOp; rw [ho]; simp only [hw]; exact h
/-- Where nothing may come up any more, all have come up (no operation waits for a later one). -/
theorem all_listed {L : Array Bool} (hs : L.size = ops.size) (hd : ((List.range ops.size).all fun i => ((ops[i]?).map (·.after.all fun e => !Region.binds md e || decide (e.on < i))).getD true) = true) (hr : Region.ready md ops L = []) :
  ∀ i, i < ops.size → L.getD i true = true := by
 intro i
 induction i using Nat.strongRecOn with
 | _ i ih =>
  intro hi
  cases hl : L.getD i true with
  | true => rfl
  | false =>
   exfalso
   have hmem : i ∈ Region.ready md ops L := by
    unfold Region.ready
    refine List.mem_filter.2 ⟨List.mem_range.2 hi, ?_⟩
    have h1 := List.all_eq_true.1 hd i (List.mem_range.2 hi)
    rw [Array.getElem?_eq_getElem hi] at h1 ⊢
    simp only [Option.map_some, Option.getD_some] at h1 ⊢
    rw [hl]
    simp only [Bool.not_false, Bool.true_and]
    rw [Array.all_eq_true'] at h1 ⊢
    intro e he
    have h2 := h1 e he
    simp only [Bool.or_eq_true, Bool.not_eq_true', decide_eq_true_eq] at h2 ⊢
    rcases h2 with h2 | h2
    ·
     exact .inl h2
    ·
     have h3 := ih e.on h2 (by omega)
     refine .inr ?_
     rw [Array.getD_eq_getD_getElem?] at h3 ⊢
     rw [Array.getElem?_eq_getElem (by omega)] at h3 ⊢
     exact h3
   rw [hr] at hmem
   cases hmem
end Go.AnyOrder
end
section
namespace Go.Proofs.YtdheokololpnbaaGreatDoor.PWalk
open Go.RowKit Go.Proofs.YtdheokololpnbaaGreatDoorW.PrintWords Go.Proofs.YtdheokololpnbaaGreatDoorW.PrintLast Go.Proofs.YtdheokololpnbaaGreatDoorW.PrintMore
set_option linter.unusedVariables false
set_option linter.unusedSimpArgs false
open Go.Shelf
attribute [local go_sem] Oper.semAt_some
/-- A node stands before another one with the same parent. -/
def nodeLt (a b : Node) : Bool := if a.f2 = b.f2 then dotLt b.f0 a.f0 else decide (b.f2 < a.f2)
def Gr (w W : World) : Prop := ∃ (q : Nat) (os : Array Obj), W = Go.Sort.grow (w.drewN q) os
theorem Gr.trans {a b c : World} (h : Gr a b) (k : Gr b c) : Gr a c := by
 obtain ⟨q, os, rfl⟩ := h
 obtain ⟨q', os', rfl⟩ := k
 exact ⟨q + q', os ++ os', by show Go.Sort.grow (Go.Sort.grow ((a.drewN q).drewN q') os) os' = _; rw [Go.Sort.grow_grow, World.drewN_drewN]⟩
theorem Gr.drew (w : World) : Gr w w.drew := ⟨1, #[], by rw [Go.Sort.grow_empty]; rfl⟩
theorem Gr.alloc (w : World) (o : Obj) : Gr w (w.alloc o) := ⟨0, #[o], by rw [Go.Sort.alloc_eq_grow]; rfl⟩
theorem Gr.drawn {w W : World} (h : Drawn0 w W) : Gr w W := by
 obtain ⟨n, rfl⟩ := h
 exact ⟨n, #[], by rw [Go.Sort.grow_empty]⟩
theorem Gr.below {w W : World} (h : Gr w W) : Below w.heap.size w W := by
 obtain ⟨q, os, rfl⟩ := h
 exact ⟨rfl, rfl, rfl, by show w.heap.size ≤ (w.heap ++ os).size; simp, fun k hk => by show (w.heap ++ os)[k]? = _; rw [Array.getElem?_append_left hk]⟩
theorem Gr.blk {w W : World} (h : Gr w W) {g : Nat} {o : Obj} (hg : w.heap[g]? = some o) : W.heap[g]? = some o := blk_keep hg h.below
def cmpI (a b : Int) : Int := if a < b then -1 else if b < a then 1 else 0
theorem cmpI_call (a b : Int) (W : World) : Calls Tryz.prog 58 #[.int .i64 a, .int .i64 b] W fun e W' => e = .returned (.int .i64 (cmpI a b)) ∧ Gr W W' :=
 (cmp_Compare_int.calls a b _ W (cmpCompare_is a b)).mono fun _ _ ⟨he, hd⟩ => ⟨he, Gr.drawn hd⟩
def orI (a b : Int) : Int := if a = 0 then b else a
theorem orI_call (a b : Int) (g : Nat) (W : World) (hg : W.heap[g]? = some (.cells #[.int .i64 a, .int .i64 b] 3 (0, 0))) : Calls Tryz.prog 57 #[.slice (some ⟨g, 0, none⟩) 2 2] W fun e W' => e = .returned (.int .i64 (orI a b)) ∧ Gr W W' := by
 refine (cmp_Or_int.calls 5 (some ⟨g, 0, none⟩) 2 [a, b] (orI a b) W ?_ (Nat.le_refl _) ?_).mono fun _ _ ⟨he, hd⟩ => ⟨he, Gr.drawn hd⟩
 ·
  refine ⟨rfl, by simp, fun _ => ⟨_, rfl, fun i x hi => ⟨[.int .i64 x], rfl, rfl, fun j u hu => ?_⟩⟩⟩
  rcases i with _ | _ | i
  ·
   rcases j with _ | j
   ·
    simp only [List.getElem?_cons_zero, Option.some.injEq] at hi hu; subst hi hu
    exact (blk_cell hg 0).trans rfl
   ·
    simp at hu
  ·
   rcases j with _ | j
   ·
    simp only [List.getElem?_cons_zero, List.getElem?_cons_succ, Option.some.injEq] at hi hu; subst hi hu
    exact (blk_cell hg 1).trans rfl
   ·
    simp at hu
  ·
   simp at hi
 ·
  unfold cmp_Or_int.f orI
  have w1 : wrap64 1 = 1 := by unfold wrap64; omega
  have w2 : wrap64 2 = 2 := by unfold wrap64; omega
  have w3 : wrap64 (1 + 1) = 2 := by unfold wrap64; omega
  by_cases h0 : a = 0
  ·
   by_cases h1 : b = 0
   ·
    simp [cmp_Or_int.l0, rd, h0, h1, w1, w2, w3]
   ·
    simp [cmp_Or_int.l0, rd, h0, h1, w1]
  ·
   simp [cmp_Or_int.l0, rd, h0]
theorem orI_dot (a b : Dot) : orI (cmpI a.f1 b.f1) (cmpI a.f0 b.f0) = dotCmp a b := by
 unfold orI cmpI dotCmp dotLt
 rcases Int.lt_trichotomy a.f1 b.f1 with h | h | h
 ·
  simp [h]
 ·
  rcases Int.lt_trichotomy a.f0 b.f0 with g | g | g
  ·
   simp [h, g]
  ·
   simp [h, g]
  ·
   have g' : ¬ a.f0 < b.f0 := by omega
   simp [h, g, g']
 ·
  have h' : ¬ a.f1 < b.f1 := by omega
  have h2 : ¬ a.f1 = b.f1 := by omega
  have h3 : ¬ b.f1 = a.f1 := by omega
  simp [h, h', h2, h3]
def sel (b : Bool) (v : Value) : Value := if b then v else undef
@[simp] theorem sel_true (v : Value) : sel true v = v := rfl
@[simp] theorem sel_false (v : Value) : sel false v = undef := rfl
/-- A place that an operation turns from u to v. -/
def selv (b : Bool) (v u : Value) : Value := if b then v else u
@[simp] theorem selv_true (v u : Value) : selv true v u = v := rfl
@[simp] theorem selv_false (v u : Value) : selv false v u = u := rfl
/-- Two boxes, and the pair of answers once it is laid. -/
structure Two (W0 : World) (A B : Nat) (oA oB : Obj) (x y : Int) (l : Bool) (g : Nat) (V : World) : Prop where
 gr : Gr W0 V
 a : W0.heap[A]? = some oA
 b : W0.heap[B]? = some oB
 pair : l = true → V.heap[g]? = some (.cells #[.int .i64 x, .int .i64 y] 3 (0, 0))
theorem Two.more {W0 : World} {A B : Nat} {oA oB : Obj} {x y : Int} {l : Bool} {g : Nat} {V V' : World} (h : Two W0 A B oA oB x y l g V) (k : Gr V V') : Two W0 A B oA oB x y l g V' := ⟨h.gr.trans k, h.a, h.b, fun e => k.blk (h.pair e)⟩
theorem Two.laid {W0 : World} {A B : Nat} {oA oB : Obj} {x y : Int} {l : Bool} {g : Nat} {V : World} (h : Two W0 A B oA oB x y l g V) : Two W0 A B oA oB x y true V.heap.size (V.alloc (.cells #[.int .i64 x, .int .i64 y] 3 (0, 0))) := ⟨h.gr.trans (Gr.alloc _ _), h.a, h.b, fun _ => blk_new _ _⟩
def dotCmpInv (W0 : World) (A B : Nat) (a b : Dot) (L : Array Bool) (ac : Act) (V : World) : Prop := ∃ (l0 l1 l2 l3 l4 l5 l6 l7 l8 l9 l10 l11 l12 : Bool) (g : Nat), L = #[l0, l1, l2, l3, l4, l5, l6, l7, l8, l9, l10, l11, l12] ∧ ac = { tmps := #[vDot a, vDot b, .pointer (some ⟨A, 0, none⟩), .pointer (some ⟨B, 0, none⟩), selv l12 (.int .i64 (orI (cmpI a.f1 b.f1) (cmpI a.f0 b.f0))) (.int .i64 0), sel l0 (.pointer (some ⟨A, 1, none⟩)), sel l1 (.int .i64 a.f1), sel l2 (.pointer (some ⟨B, 1, none⟩)), sel l3 (.int .i64 b.f1), sel l4 (.int .i64 (cmpI a.f1 b.f1)), sel l5 (.pointer (some ⟨A, 0, none⟩)), sel l6 (.int .i64 a.f0), sel l7 (.pointer (some ⟨B, 0, none⟩)), sel l8 (.int .i64 b.f0), sel l9 (.int .i64 (cmpI a.f0 b.f0)), sel l10 (.slice (some ⟨g, 0, none⟩) 2 2), sel l11 (.int .i64 (orI (cmpI a.f1 b.f1) (cmpI a.f0 b.f0)))], defers := [] } ∧ Aside0 (Two W0 A B (.cells #[.int .i64 a.f0, .int .i64 a.f1] 33 (0, 0)) (.cells #[.int .i64 b.f0, .int .i64 b.f1] 33 (0, 0)) (cmpI a.f1 b.f1) (cmpI a.f0 b.f0) l10 g V)
set_option maxHeartbeats 1000000 in
set_option maxRecDepth 100000 in
theorem dotCmp_call (a b : Dot) (w : World) : Calls Tryz.prog 40 #[vDot a, vDot b] w fun e w' => e = .returned (.int .i64 (dotCmp a b)) ∧ Gr w w' := by
 have hB : ((w.alloc (.cells #[.int .i64 a.f0, .int .i64 a.f1] 33 (0, 0))).alloc (.cells #[.int .i64 b.f0, .int .i64 b.f1] 33 (0, 0))).heap[w.heap.size + 1]? = some (.cells #[.int .i64 b.f0, .int .i64 b.f1] 33 (0, 0)) := by have := blk_new (w.alloc (.cells #[.int .i64 a.f0, .int .i64 a.f1] 33 (0, 0))) (.cells #[.int .i64 b.f0, .int .i64 b.f1] 33 (0, 0)); rwa [World.size_alloc] at this
 have HB := Aside0.mk hB
 clear hB
 go_enter Tryz.func40, Tryz.ntmps40
 go_wp2_with fail
 have hB := HB.out
 refine AnyOrder.wp_region (by kernel_rfl) (dotCmpInv ((w.alloc (.cells #[.int .i64 a.f0, .int .i64 a.f1] 33 (0, 0))).alloc (.cells #[.int .i64 b.f0, .int .i64 b.f1] 33 (0, 0))) w.heap.size (w.heap.size + 1) a b) ?start ?step ?last
 case start => exact ⟨false, false, false, false, false, false, false, false, false, false, false, false, false, 0, rfl, rfl, ⟨⟨Gr.drew _, blk_alloc (blk_new _ _) _, hB, fun h => by cases h⟩⟩⟩
 case step =>
  rintro L ac V i ⟨l0, l1, l2, l3, l4, l5, l6, l7, l8, l9, l10, l11, l12, g, rfl, rfl, HF⟩ hi K hK
  have h1 : i = 0 ∨ i = 1 ∨ i = 2 ∨ i = 3 ∨ i = 4 ∨ i = 5 ∨ i = 6 ∨ i = 7 ∨ i = 8 ∨ i = 9 ∨ i = 10 ∨ i = 11 ∨ i = 12 := by
   have h1 := (AnyOrder.mem_ready hi).1
   clear hi hK
   change i < 13 at h1
   omega
  rcases h1 with rfl | rfl | rfl | rfl | rfl | rfl | rfl | rfl | rfl | rfl | rfl | rfl | rfl
  ·
   obtain rfl : l0 = false := (AnyOrder.mem_ready hi).2.1
   clear hi
   refine AnyOrder.wpOp_go rfl (by rfl) ?_
   go_wp2_with fail
   exact ⟨true, l1, l2, l3, l4, l5, l6, l7, l8, l9, l10, l11, l12, g, rfl, rfl, HF⟩
  ·
   obtain rfl : l1 = false := (AnyOrder.mem_ready hi).2.1
   obtain rfl : l0 = true := AnyOrder.dep (q := 0) hi rfl rfl rfl
   clear hi
   simp only [sel_true, selv_true] at hK ⊢
   have c1 : V.cell? ⟨w.heap.size, 1, none⟩ = _ := (blk_cell (HF.out.gr.blk HF.out.a) 1).trans rfl
   refine AnyOrder.wpOp_go rfl (by rfl) ?_
   go_wp2_with fail
   exact ⟨true, true, l2, l3, l4, l5, l6, l7, l8, l9, l10, l11, l12, g, rfl, rfl, HF⟩
  ·
   obtain rfl : l2 = false := (AnyOrder.mem_ready hi).2.1
   clear hi
   refine AnyOrder.wpOp_go rfl (by rfl) ?_
   go_wp2_with fail
   exact ⟨l0, l1, true, l3, l4, l5, l6, l7, l8, l9, l10, l11, l12, g, rfl, rfl, HF⟩
  ·
   obtain rfl : l3 = false := (AnyOrder.mem_ready hi).2.1
   obtain rfl : l2 = true := AnyOrder.dep (q := 0) hi rfl rfl rfl
   clear hi
   simp only [sel_true, selv_true] at hK ⊢
   have c1 : V.cell? ⟨w.heap.size + 1, 1, none⟩ = _ := (blk_cell (HF.out.gr.blk HF.out.b) 1).trans rfl
   refine AnyOrder.wpOp_go rfl (by rfl) ?_
   go_wp2_with fail
   exact ⟨l0, l1, true, true, l4, l5, l6, l7, l8, l9, l10, l11, l12, g, rfl, rfl, HF⟩
  ·
   obtain rfl : l4 = false := (AnyOrder.mem_ready hi).2.1
   obtain rfl : l1 = true := AnyOrder.dep (q := 0) hi rfl rfl rfl
   obtain rfl : l3 = true := AnyOrder.dep (q := 1) hi rfl rfl rfl
   clear hi
   simp only [sel_true, selv_true] at hK ⊢
   refine AnyOrder.wpOp_go rfl (by rfl) ?_
   go_wp2_with fail
   refine (cmpI_call _ _ V).mono ?_
   rintro e V' ⟨rfl, hb⟩
   exact hK _ _ ⟨l0, true, l2, true, true, l5, l6, l7, l8, l9, l10, l11, l12, g, rfl, rfl, ⟨HF.out.more hb⟩⟩
  ·
   obtain rfl : l5 = false := (AnyOrder.mem_ready hi).2.1
   clear hi
   refine AnyOrder.wpOp_go rfl (by rfl) ?_
   go_wp2_with fail
   exact ⟨l0, l1, l2, l3, l4, true, l6, l7, l8, l9, l10, l11, l12, g, rfl, rfl, HF⟩
  ·
   obtain rfl : l6 = false := (AnyOrder.mem_ready hi).2.1
   obtain rfl : l5 = true := AnyOrder.dep (q := 0) hi rfl rfl rfl
   clear hi
   simp only [sel_true, selv_true] at hK ⊢
   have c0 : V.cell? ⟨w.heap.size, 0, none⟩ = _ := (blk_cell (HF.out.gr.blk HF.out.a) 0).trans rfl
   refine AnyOrder.wpOp_go rfl (by rfl) ?_
   go_wp2_with fail
   exact ⟨l0, l1, l2, l3, l4, true, true, l7, l8, l9, l10, l11, l12, g, rfl, rfl, HF⟩
  ·
   obtain rfl : l7 = false := (AnyOrder.mem_ready hi).2.1
   clear hi
   refine AnyOrder.wpOp_go rfl (by rfl) ?_
   go_wp2_with fail
   exact ⟨l0, l1, l2, l3, l4, l5, l6, true, l8, l9, l10, l11, l12, g, rfl, rfl, HF⟩
  ·
   obtain rfl : l8 = false := (AnyOrder.mem_ready hi).2.1
   obtain rfl : l7 = true := AnyOrder.dep (q := 0) hi rfl rfl rfl
   clear hi
   simp only [sel_true, selv_true] at hK ⊢
   have c0 : V.cell? ⟨w.heap.size + 1, 0, none⟩ = _ := (blk_cell (HF.out.gr.blk HF.out.b) 0).trans rfl
   refine AnyOrder.wpOp_go rfl (by rfl) ?_
   go_wp2_with fail
   exact ⟨l0, l1, l2, l3, l4, l5, l6, true, true, l9, l10, l11, l12, g, rfl, rfl, HF⟩
  ·
   obtain rfl : l9 = false := (AnyOrder.mem_ready hi).2.1
   obtain rfl : l6 = true := AnyOrder.dep (q := 0) hi rfl rfl rfl
   obtain rfl : l8 = true := AnyOrder.dep (q := 1) hi rfl rfl rfl
   obtain rfl : l4 = true := AnyOrder.dep (q := 2) hi rfl rfl rfl
   clear hi
   simp only [sel_true, selv_true] at hK ⊢
   refine AnyOrder.wpOp_go rfl (by rfl) ?_
   go_wp2_with fail
   refine (cmpI_call _ _ V).mono ?_
   rintro e V' ⟨rfl, hb⟩
   exact hK _ _ ⟨l0, l1, l2, l3, true, l5, true, l7, true, true, l10, l11, l12, g, rfl, rfl, ⟨HF.out.more hb⟩⟩
  ·
   obtain rfl : l10 = false := (AnyOrder.mem_ready hi).2.1
   obtain rfl : l4 = true := AnyOrder.dep (q := 0) hi rfl rfl rfl
   obtain rfl : l9 = true := AnyOrder.dep (q := 1) hi rfl rfl rfl
   clear hi
   simp only [sel_true, selv_true] at hK ⊢
   refine AnyOrder.wpOp_go rfl (by rfl) ?_
   go_wp2_with fail
   exact ⟨l0, l1, l2, l3, true, l5, l6, l7, l8, true, true, l11, l12, V.heap.size, rfl, rfl, ⟨HF.out.laid⟩⟩
  ·
   obtain rfl : l11 = false := (AnyOrder.mem_ready hi).2.1
   obtain rfl : l10 = true := AnyOrder.dep (q := 0) hi rfl rfl rfl
   obtain rfl : l9 = true := AnyOrder.dep (q := 1) hi rfl rfl rfl
   clear hi
   simp only [sel_true, selv_true] at hK ⊢
   refine AnyOrder.wpOp_go rfl (by rfl) ?_
   go_wp2_with fail
   refine (orI_call _ _ _ V (HF.out.pair rfl)).mono ?_
   rintro e V' ⟨rfl, hb⟩
   exact hK _ _ ⟨l0, l1, l2, l3, l4, l5, l6, l7, l8, true, true, true, l12, g, rfl, rfl, ⟨HF.out.more hb⟩⟩
  ·
   obtain rfl : l12 = false := (AnyOrder.mem_ready hi).2.1
   obtain rfl : l11 = true := AnyOrder.dep (q := 0) hi rfl rfl rfl
   obtain rfl : l0 = true := AnyOrder.dep (q := 2) hi rfl rfl rfl
   obtain rfl : l1 = true := AnyOrder.dep (q := 3) hi rfl rfl rfl
   obtain rfl : l2 = true := AnyOrder.dep (q := 4) hi rfl rfl rfl
   obtain rfl : l3 = true := AnyOrder.dep (q := 5) hi rfl rfl rfl
   obtain rfl : l4 = true := AnyOrder.dep (q := 6) hi rfl rfl rfl
   obtain rfl : l5 = true := AnyOrder.dep (q := 7) hi rfl rfl rfl
   obtain rfl : l6 = true := AnyOrder.dep (q := 8) hi rfl rfl rfl
   obtain rfl : l7 = true := AnyOrder.dep (q := 9) hi rfl rfl rfl
   obtain rfl : l8 = true := AnyOrder.dep (q := 10) hi rfl rfl rfl
   obtain rfl : l9 = true := AnyOrder.dep (q := 11) hi rfl rfl rfl
   obtain rfl : l10 = true := AnyOrder.dep (q := 12) hi rfl rfl rfl
   clear hi
   simp only [sel_true, selv_true] at hK ⊢
   refine AnyOrder.wpOp_go rfl (by rfl) ?_
   go_wp2_with fail
   exact ⟨true, true, true, true, true, true, true, true, true, true, true, true, true, g, rfl, rfl, HF⟩
 case last =>
  rintro L ac V ⟨l0, l1, l2, l3, l4, l5, l6, l7, l8, l9, l10, l11, l12, g, rfl, rfl, HF⟩ hr
  have hall := AnyOrder.all_listed rfl (by kernel_rfl) hr
  clear hr
  obtain rfl : l0 = true := hall 0 (by decide)
  obtain rfl : l1 = true := hall 1 (by decide)
  obtain rfl : l2 = true := hall 2 (by decide)
  obtain rfl : l3 = true := hall 3 (by decide)
  obtain rfl : l4 = true := hall 4 (by decide)
  obtain rfl : l5 = true := hall 5 (by decide)
  obtain rfl : l6 = true := hall 6 (by decide)
  obtain rfl : l7 = true := hall 7 (by decide)
  obtain rfl : l8 = true := hall 8 (by decide)
  obtain rfl : l9 = true := hall 9 (by decide)
  obtain rfl : l10 = true := hall 10 (by decide)
  obtain rfl : l11 = true := hall 11 (by decide)
  obtain rfl : l12 = true := hall 12 (by decide)
  clear hall
  simp only [sel_true, selv_true]
  go_wp2
  go_ret
  exact ⟨by rw [orI_dot]; rfl, ((Gr.alloc w _).trans (Gr.alloc _ _)).trans HF.out.gr⟩
def nodeLtInv (W0 : World) (A B : Nat) (a b : Node) (L : Array Bool) (ac : Act) (V : World) : Prop := ∃ (l0 l1 l2 l3 l4 l5 l6 l7 l8 l9 l10 l11 l12 l13 : Bool) (g : Nat), L = #[l0, l1, l2, l3, l4, l5, l6, l7, l8, l9, l10, l11, l12, l13] ∧ ac = { tmps := #[vNode a, vNode b, .pointer (some ⟨A, 0, none⟩), .pointer (some ⟨B, 0, none⟩), selv l13 (.bool (decide (orI (cmpI b.f2 a.f2) (dotCmp b.f0 a.f0) < 0))) (.bool false), sel l0 (.pointer (some ⟨B, 4, none⟩)), sel l1 (.int .i64 b.f2), sel l2 (.pointer (some ⟨A, 4, none⟩)), sel l3 (.int .i64 a.f2), sel l4 (.int .i64 (cmpI b.f2 a.f2)), sel l5 (.pointer (some ⟨B, 0, none⟩)), sel l6 (vDot b.f0), sel l7 (.pointer (some ⟨A, 0, none⟩)), sel l8 (vDot a.f0), sel l9 (.int .i64 (dotCmp b.f0 a.f0)), sel l10 (.slice (some ⟨g, 0, none⟩) 2 2), sel l11 (.int .i64 (orI (cmpI b.f2 a.f2) (dotCmp b.f0 a.f0))), sel l12 (.bool (decide (orI (cmpI b.f2 a.f2) (dotCmp b.f0 a.f0) < 0)))], defers := [] } ∧ Aside0 (Two W0 A B (.cells #[.int .i64 a.f0.f0, .int .i64 a.f0.f1, .int .i64 a.f1.f0, .int .i64 a.f1.f1, .int .i64 a.f2, .int .i32 a.f3] 35 (0, 0)) (.cells #[.int .i64 b.f0.f0, .int .i64 b.f0.f1, .int .i64 b.f1.f0, .int .i64 b.f1.f1, .int .i64 b.f2, .int .i32 b.f3] 35 (0, 0)) (cmpI b.f2 a.f2) (dotCmp b.f0 a.f0) l10 g V)
theorem orI_node (a b : Node) : decide (orI (cmpI b.f2 a.f2) (dotCmp b.f0 a.f0) < 0) = nodeLt a b := by
 unfold orI cmpI nodeLt dotCmp
 rcases Int.lt_trichotomy a.f2 b.f2 with h | h | h
 ·
  have h' : ¬ b.f2 < a.f2 := by omega
  have h2 : ¬ a.f2 = b.f2 := by omega
  simp [h, h', h2]
 ·
  have h' : ¬ b.f2 < a.f2 := by omega
  have h3 : ¬ a.f2 < b.f2 := by omega
  rw [if_neg h', if_neg h3, if_pos rfl, if_pos h]
  cases h4 : dotLt b.f0 a.f0
  ·
   cases dotLt a.f0 b.f0 <;> simp
  ·
   simp
 ·
  have h2 : ¬ a.f2 = b.f2 := by omega
  simp [h, h2]
set_option maxHeartbeats 1000000 in
set_option maxRecDepth 100000 in
theorem nodeLt_call (a b : Node) (w : World) : Calls Tryz.prog 104 #[vNode a, vNode b] w fun e w' => e = .returned (.bool (nodeLt a b)) ∧ Gr w w' := by
 have hB : ((w.alloc (.cells #[.int .i64 a.f0.f0, .int .i64 a.f0.f1, .int .i64 a.f1.f0, .int .i64 a.f1.f1, .int .i64 a.f2, .int .i32 a.f3] 35 (0, 0))).alloc (.cells #[.int .i64 b.f0.f0, .int .i64 b.f0.f1, .int .i64 b.f1.f0, .int .i64 b.f1.f1, .int .i64 b.f2, .int .i32 b.f3] 35 (0, 0))).heap[w.heap.size + 1]? = some (.cells #[.int .i64 b.f0.f0, .int .i64 b.f0.f1, .int .i64 b.f1.f0, .int .i64 b.f1.f1, .int .i64 b.f2, .int .i32 b.f3] 35 (0, 0)) := by have := blk_new (w.alloc (.cells #[.int .i64 a.f0.f0, .int .i64 a.f0.f1, .int .i64 a.f1.f0, .int .i64 a.f1.f1, .int .i64 a.f2, .int .i32 a.f3] 35 (0, 0))) (.cells #[.int .i64 b.f0.f0, .int .i64 b.f0.f1, .int .i64 b.f1.f0, .int .i64 b.f1.f1, .int .i64 b.f2, .int .i32 b.f3] 35 (0, 0)); rwa [World.size_alloc] at this
 have HB := Aside0.mk hB
 clear hB
 go_enter Tryz.func104, Tryz.ntmps104
 go_wp2_with fail
 have hB := HB.out
 refine AnyOrder.wp_region (by kernel_rfl) (nodeLtInv ((w.alloc (.cells #[.int .i64 a.f0.f0, .int .i64 a.f0.f1, .int .i64 a.f1.f0, .int .i64 a.f1.f1, .int .i64 a.f2, .int .i32 a.f3] 35 (0, 0))).alloc (.cells #[.int .i64 b.f0.f0, .int .i64 b.f0.f1, .int .i64 b.f1.f0, .int .i64 b.f1.f1, .int .i64 b.f2, .int .i32 b.f3] 35 (0, 0))) w.heap.size (w.heap.size + 1) a b) ?start ?step ?last
 case start => exact ⟨false, false, false, false, false, false, false, false, false, false, false, false, false, false, 0, rfl, rfl, ⟨⟨Gr.drew _, blk_alloc (blk_new _ _) _, hB, fun h => by cases h⟩⟩⟩
 case step =>
  rintro L ac V i ⟨l0, l1, l2, l3, l4, l5, l6, l7, l8, l9, l10, l11, l12, l13, g, rfl, rfl, HF⟩ hi K hK
  have h1 : i = 0 ∨ i = 1 ∨ i = 2 ∨ i = 3 ∨ i = 4 ∨ i = 5 ∨ i = 6 ∨ i = 7 ∨ i = 8 ∨ i = 9 ∨ i = 10 ∨ i = 11 ∨ i = 12 ∨ i = 13 := by
   have h1 := (AnyOrder.mem_ready hi).1
   clear hi hK
   change i < 14 at h1
   omega
  rcases h1 with rfl | rfl | rfl | rfl | rfl | rfl | rfl | rfl | rfl | rfl | rfl | rfl | rfl | rfl
  ·
   obtain rfl : l0 = false := (AnyOrder.mem_ready hi).2.1
   clear hi
   refine AnyOrder.wpOp_go rfl (by rfl) ?_
   go_wp2_with fail
   exact ⟨true, l1, l2, l3, l4, l5, l6, l7, l8, l9, l10, l11, l12, l13, g, rfl, rfl, HF⟩
  ·
   obtain rfl : l1 = false := (AnyOrder.mem_ready hi).2.1
   obtain rfl : l0 = true := AnyOrder.dep (q := 0) hi rfl rfl rfl
   clear hi
   simp only [sel_true, selv_true] at hK ⊢
   have c4 : V.cell? ⟨w.heap.size + 1, 4, none⟩ = _ := (blk_cell (HF.out.gr.blk HF.out.b) 4).trans rfl
   refine AnyOrder.wpOp_go rfl (by rfl) ?_
   go_wp2_with fail
   exact ⟨true, true, l2, l3, l4, l5, l6, l7, l8, l9, l10, l11, l12, l13, g, rfl, rfl, HF⟩
  ·
   obtain rfl : l2 = false := (AnyOrder.mem_ready hi).2.1
   clear hi
   refine AnyOrder.wpOp_go rfl (by rfl) ?_
   go_wp2_with fail
   exact ⟨l0, l1, true, l3, l4, l5, l6, l7, l8, l9, l10, l11, l12, l13, g, rfl, rfl, HF⟩
  ·
   obtain rfl : l3 = false := (AnyOrder.mem_ready hi).2.1
   obtain rfl : l2 = true := AnyOrder.dep (q := 0) hi rfl rfl rfl
   clear hi
   simp only [sel_true, selv_true] at hK ⊢
   have c4 : V.cell? ⟨w.heap.size, 4, none⟩ = _ := (blk_cell (HF.out.gr.blk HF.out.a) 4).trans rfl
   refine AnyOrder.wpOp_go rfl (by rfl) ?_
   go_wp2_with fail
   exact ⟨l0, l1, true, true, l4, l5, l6, l7, l8, l9, l10, l11, l12, l13, g, rfl, rfl, HF⟩
  ·
   obtain rfl : l4 = false := (AnyOrder.mem_ready hi).2.1
   obtain rfl : l1 = true := AnyOrder.dep (q := 0) hi rfl rfl rfl
   obtain rfl : l3 = true := AnyOrder.dep (q := 1) hi rfl rfl rfl
   clear hi
   simp only [sel_true, selv_true] at hK ⊢
   refine AnyOrder.wpOp_go rfl (by rfl) ?_
   go_wp2_with fail
   refine (cmpI_call _ _ V).mono ?_
   rintro e V' ⟨rfl, hb⟩
   exact hK _ _ ⟨l0, true, l2, true, true, l5, l6, l7, l8, l9, l10, l11, l12, l13, g, rfl, rfl, ⟨HF.out.more hb⟩⟩
  ·
   obtain rfl : l5 = false := (AnyOrder.mem_ready hi).2.1
   clear hi
   refine AnyOrder.wpOp_go rfl (by rfl) ?_
   go_wp2_with fail
   exact ⟨l0, l1, l2, l3, l4, true, l6, l7, l8, l9, l10, l11, l12, l13, g, rfl, rfl, HF⟩
  ·
   obtain rfl : l6 = false := (AnyOrder.mem_ready hi).2.1
   obtain rfl : l5 = true := AnyOrder.dep (q := 0) hi rfl rfl rfl
   clear hi
   simp only [sel_true, selv_true] at hK ⊢
   have c0 : V.cell? ⟨w.heap.size + 1, 0, none⟩ = _ := (blk_cell (HF.out.gr.blk HF.out.b) 0).trans rfl
   have c1 : V.cell? ⟨w.heap.size + 1, 1, none⟩ = _ := (blk_cell (HF.out.gr.blk HF.out.b) 1).trans rfl
   refine AnyOrder.wpOp_go rfl (by rfl) ?_
   go_wp2_with fail
   exact ⟨l0, l1, l2, l3, l4, true, true, l7, l8, l9, l10, l11, l12, l13, g, rfl, rfl, HF⟩
  ·
   obtain rfl : l7 = false := (AnyOrder.mem_ready hi).2.1
   clear hi
   refine AnyOrder.wpOp_go rfl (by rfl) ?_
   go_wp2_with fail
   exact ⟨l0, l1, l2, l3, l4, l5, l6, true, l8, l9, l10, l11, l12, l13, g, rfl, rfl, HF⟩
  ·
   obtain rfl : l8 = false := (AnyOrder.mem_ready hi).2.1
   obtain rfl : l7 = true := AnyOrder.dep (q := 0) hi rfl rfl rfl
   clear hi
   simp only [sel_true, selv_true] at hK ⊢
   have c0 : V.cell? ⟨w.heap.size, 0, none⟩ = _ := (blk_cell (HF.out.gr.blk HF.out.a) 0).trans rfl
   have c1 : V.cell? ⟨w.heap.size, 1, none⟩ = _ := (blk_cell (HF.out.gr.blk HF.out.a) 1).trans rfl
   refine AnyOrder.wpOp_go rfl (by rfl) ?_
   go_wp2_with fail
   exact ⟨l0, l1, l2, l3, l4, l5, l6, true, true, l9, l10, l11, l12, l13, g, rfl, rfl, HF⟩
  ·
   obtain rfl : l9 = false := (AnyOrder.mem_ready hi).2.1
   obtain rfl : l6 = true := AnyOrder.dep (q := 0) hi rfl rfl rfl
   obtain rfl : l8 = true := AnyOrder.dep (q := 1) hi rfl rfl rfl
   obtain rfl : l4 = true := AnyOrder.dep (q := 2) hi rfl rfl rfl
   clear hi
   simp only [sel_true, selv_true] at hK ⊢
   refine AnyOrder.wpOp_go rfl (by rfl) ?_
   go_wp2_with fail
   refine (dotCmp_call b.f0 a.f0 V).mono ?_
   rintro e V' ⟨rfl, hb⟩
   exact hK _ _ ⟨l0, l1, l2, l3, true, l5, true, l7, true, true, l10, l11, l12, l13, g, rfl, rfl, ⟨HF.out.more hb⟩⟩
  ·
   obtain rfl : l10 = false := (AnyOrder.mem_ready hi).2.1
   obtain rfl : l4 = true := AnyOrder.dep (q := 0) hi rfl rfl rfl
   obtain rfl : l9 = true := AnyOrder.dep (q := 1) hi rfl rfl rfl
   clear hi
   simp only [sel_true, selv_true] at hK ⊢
   refine AnyOrder.wpOp_go rfl (by rfl) ?_
   go_wp2_with fail
   exact ⟨l0, l1, l2, l3, true, l5, l6, l7, l8, true, true, l11, l12, l13, V.heap.size, rfl, rfl, ⟨HF.out.laid⟩⟩
  ·
   obtain rfl : l11 = false := (AnyOrder.mem_ready hi).2.1
   obtain rfl : l10 = true := AnyOrder.dep (q := 0) hi rfl rfl rfl
   obtain rfl : l9 = true := AnyOrder.dep (q := 1) hi rfl rfl rfl
   clear hi
   simp only [sel_true, selv_true] at hK ⊢
   refine AnyOrder.wpOp_go rfl (by rfl) ?_
   go_wp2_with fail
   refine (orI_call _ _ _ V (HF.out.pair rfl)).mono ?_
   rintro e V' ⟨rfl, hb⟩
   exact hK _ _ ⟨l0, l1, l2, l3, l4, l5, l6, l7, l8, true, true, true, l12, l13, g, rfl, rfl, ⟨HF.out.more hb⟩⟩
  ·
   obtain rfl : l12 = false := (AnyOrder.mem_ready hi).2.1
   obtain rfl : l11 = true := AnyOrder.dep (q := 0) hi rfl rfl rfl
   clear hi
   simp only [sel_true, selv_true] at hK ⊢
   refine AnyOrder.wpOp_go rfl (by rfl) ?_
   go_wp2_with fail
   exact ⟨l0, l1, l2, l3, l4, l5, l6, l7, l8, l9, l10, true, true, l13, g, rfl, rfl, HF⟩
  ·
   obtain rfl : l13 = false := (AnyOrder.mem_ready hi).2.1
   obtain rfl : l12 = true := AnyOrder.dep (q := 0) hi rfl rfl rfl
   obtain rfl : l11 = true := AnyOrder.dep (q := 1) hi rfl rfl rfl
   obtain rfl : l0 = true := AnyOrder.dep (q := 2) hi rfl rfl rfl
   obtain rfl : l1 = true := AnyOrder.dep (q := 3) hi rfl rfl rfl
   obtain rfl : l2 = true := AnyOrder.dep (q := 4) hi rfl rfl rfl
   obtain rfl : l3 = true := AnyOrder.dep (q := 5) hi rfl rfl rfl
   obtain rfl : l4 = true := AnyOrder.dep (q := 6) hi rfl rfl rfl
   obtain rfl : l5 = true := AnyOrder.dep (q := 7) hi rfl rfl rfl
   obtain rfl : l6 = true := AnyOrder.dep (q := 8) hi rfl rfl rfl
   obtain rfl : l7 = true := AnyOrder.dep (q := 9) hi rfl rfl rfl
   obtain rfl : l8 = true := AnyOrder.dep (q := 10) hi rfl rfl rfl
   obtain rfl : l9 = true := AnyOrder.dep (q := 11) hi rfl rfl rfl
   obtain rfl : l10 = true := AnyOrder.dep (q := 12) hi rfl rfl rfl
   clear hi
   simp only [sel_true, selv_true] at hK ⊢
   refine AnyOrder.wpOp_go rfl (by rfl) ?_
   go_wp2_with fail
   exact ⟨true, true, true, true, true, true, true, true, true, true, true, true, true, true, g, rfl, rfl, HF⟩
 case last =>
  rintro L ac V ⟨l0, l1, l2, l3, l4, l5, l6, l7, l8, l9, l10, l11, l12, l13, g, rfl, rfl, HF⟩ hr
  have hall := AnyOrder.all_listed rfl (by kernel_rfl) hr
  clear hr
  obtain rfl : l0 = true := hall 0 (by decide)
  obtain rfl : l1 = true := hall 1 (by decide)
  obtain rfl : l2 = true := hall 2 (by decide)
  obtain rfl : l3 = true := hall 3 (by decide)
  obtain rfl : l4 = true := hall 4 (by decide)
  obtain rfl : l5 = true := hall 5 (by decide)
  obtain rfl : l6 = true := hall 6 (by decide)
  obtain rfl : l7 = true := hall 7 (by decide)
  obtain rfl : l8 = true := hall 8 (by decide)
  obtain rfl : l9 = true := hall 9 (by decide)
  obtain rfl : l10 = true := hall 10 (by decide)
  obtain rfl : l11 = true := hall 11 (by decide)
  obtain rfl : l12 = true := hall 12 (by decide)
  obtain rfl : l13 = true := hall 13 (by decide)
  clear hall
  simp only [sel_true, selv_true]
  go_wp2
  go_ret
  exact ⟨by rw [orI_node]; rfl, ((Gr.alloc w _).trans (Gr.alloc _ _)).trans HF.out.gr⟩
end Go.Proofs.YtdheokololpnbaaGreatDoor.PWalk
end
