/-
  As many changes as can be undone, and more. Part 3 of 10.
-/
import Derived.Test.YtefejajofmpjdaaGreatDB
import Derived.Orders
import Derived.WalkKit
import Derived.Outline
import Derived.StillTailTactics
import Derived.Maps.OwnOps
import Derived.IntWalk
import Derived.RangeFuncNested
import Derived.RangeFuncBound
import Derived.RangeFuncCalls
import Derived.RangeFuncLeaves
import Derived.Shelf.Abstract
import Derived.Shelf.RegionOpen
import Derived.OwnWalkIn
import Derived.TacticsInMore
import Derived.LoopNIn
import Derived.LoopIn
import Derived.RangeFuncBox
import Derived.Maps.AppendAt
import Derived.Lib.BufferMore
import Derived.Laws.CopyRow
import Derived.LoopTactic
import Derived.Sort.Grow
import Derived.Lib.Overlaps
import Derived.Lib.AppendZerosOnto
import Derived.Laws.Externs
section
namespace Go.Proofs.YtefejajofmpjdaaGreat.PWalk
open Go.RowKit Go.Proofs.YtefejajofmpjdaaGreatW.PrintWords Go.Proofs.YtefejajofmpjdaaGreatW.PrintLast Go.Proofs.YtefejajofmpjdaaGreatW.PrintMore
set_option linter.unusedVariables false
set_option linter.unusedSimpArgs false
section
section
open Go.Shelf
attribute [local go_sem] Oper.semAt_some
abbrev Dot := S39
abbrev Node := S42
abbrev vDot (x : Dot) : Value := .agg #[.int .i64 x.f0, .int .i64 x.f1]
abbrev vNode (x : Node) : Value := .agg #[.int .i64 x.f0.f0, .int .i64 x.f0.f1, .int .i64 x.f1.f0, .int .i64 x.f1.f1, .int .i64 x.f2, .int .i32 x.f3]
theorem Dot.ext' {a b : Dot} (h0 : a.f0 = b.f0) (h1 : a.f1 = b.f1) : a = b := by cases a; cases b; simp_all
theorem Dot.ext_iff' {a b : Dot} : a = b ↔ a.f0 = b.f0 ∧ a.f1 = b.f1 := ⟨fun h => by subst h; exact ⟨rfl, rfl⟩, fun h => Dot.ext' h.1 h.2⟩
instance : DecidableEq Dot := fun a b => decidable_of_iff (a.f0 = b.f0 ∧ a.f1 = b.f1) Dot.ext_iff'.symm
theorem Node.ext_iff' {a b : Node} : a = b ↔ a.f0 = b.f0 ∧ a.f1 = b.f1 ∧ a.f2 = b.f2 ∧ a.f3 = b.f3 := ⟨fun h => by subst h; exact ⟨rfl, rfl, rfl, rfl⟩, fun h => by cases a; cases b; simp_all⟩
instance : DecidableEq Node := fun a b => decidable_of_iff (a.f0 = b.f0 ∧ a.f1 = b.f1 ∧ a.f2 = b.f2 ∧ a.f3 = b.f3) Node.ext_iff'.symm
/-- A dot of a node; the root's; a rune of a text; a node that is allowed. -/
def dotOk (d : Dot) : Bool := decide (1 ≤ d.f0 ∧ d.f0 ≤ 64 ∧ 1 ≤ d.f1 ∧ d.f1 ≤ 4294967295)
def dotRoot (d : Dot) : Bool := decide (d.f0 = 0 ∧ d.f1 = 0)
def runeOk (r : Int) : Bool := decide (r ≠ 0 ∧ ((0 ≤ r ∧ r < 55296) ∨ (57343 < r ∧ r ≤ 1114111)))
def nodeOk (x : Node) : Bool := decide (dotOk x.f0 = true ∧ (dotRoot x.f1 = true ∨ dotOk x.f1 = true) ∧ x.f1 ≠ x.f0 ∧ 1 ≤ x.f2 ∧ x.f2 ≤ 4611686018427387904 ∧ (x.f3 = 0 ∨ runeOk x.f3 = true))
/-- Before another dot; increasing. -/
def dotLt (a b : Dot) : Bool := decide (a.f1 < b.f1 ∨ (a.f1 = b.f1 ∧ a.f0 < b.f0))
def dotCmp (a b : Dot) : Int := if dotLt a b then -1 else if dotLt b a then 1 else 0
def incB : List Dot → Bool
 | [] => true
 | [_] => true
 | a :: b :: r => dotLt a b && incB (b :: r)
def storeOk (l : List Node) : Bool := l.all nodeOk && incB (l.map (·.f0))
theorem dotCmp_ge (a b : Dot) : (dotCmp a b ≥ 0) ↔ ¬ dotLt a b = true := by
 unfold dotCmp
 by_cases h : dotLt a b = true
 ·
  simp [h]
 ·
  rw [if_neg h]
  constructor
  ·
   exact fun _ => h
  ·
   intro _; split <;> decide
theorem dotLt_irrefl (a : Dot) : dotLt a a = false := by unfold dotLt; simp
theorem dotLt_trans {a b c : Dot} (h : dotLt a b = true) (k : dotLt b c = true) : dotLt a c = true := by
 unfold dotLt at *; simp only [decide_eq_true_eq] at *; omega
theorem dotLt_total {a b : Dot} (h : dotLt a b = false) (k : dotLt b a = false) : a = b := by
 unfold dotLt at *; simp only [decide_eq_false_iff_not] at *; exact Dot.ext' (by omega) (by omega)
theorem zaj (w : World) (o : Obj) : (w.alloc o).heap[w.heap.size]? = some o := by
 show (w.heap.push o)[w.heap.size]? = some o
 simp
theorem zab {W W' : World} {g : Nat} {o : Obj} (h : W.heap[g]? = some o) (hb : Below W.heap.size W W') : W'.heap[g]? = some o := (hb.block g (zae h)).trans h
theorem za8 {w W W' : World} (h : Below w.heap.size w W) (k : Below W.heap.size W W') : Below w.heap.size w W' := below_then h h.size k
theorem validRune_is (k : Nat) (r : Int) : utf8_ValidRune.f (k + 1) r = some (decide ((0 ≤ r ∧ r < 55296) ∨ (57343 < r ∧ r ≤ 1114111))) := by
 unfold utf8_ValidRune.f utf8_ValidRune.j0
 by_cases h0 : 0 ≤ r <;> by_cases h1 : r < 55296 <;> by_cases h2 : 57343 < r <;> by_cases h3 : r ≤ 1114111 <;> simp [h0, h1, h2, h3] <;> omega
theorem runesValid_is (k : Nat) (r : Int) : runes_Valid.f (k + 1) r = some (runeOk r) := by
 unfold runes_Valid.f runeOk
 rw [validRune_is]
 by_cases h : r = 0 <;> simp [h]
theorem dotValid_is (a b : Int) : dot_Valid.f a b = some (dotOk ⟨a, b⟩) := by
 unfold dot_Valid.f dotOk
 by_cases h0 : a ≥ 1 <;> by_cases h1 : a ≤ 64 <;> by_cases h2 : b ≥ 1 <;> by_cases h3 : b ≤ 4294967295 <;> simp [h0, h1, h2, h3] <;> omega
theorem dotRoot_is (a b : Int) : dot_Root.f a b = some (dotRoot ⟨a, b⟩) := by
 unfold dot_Root.f dotRoot
 by_cases h0 : a = 0 <;> by_cases h1 : b = 0 <;> simp [h0, h1]
theorem nodeValid_is (k : Nat) (x : Node) : node_Valid.f (k + 1) x.f0.f0 x.f0.f1 x.f1.f0 x.f1.f1 x.f2 x.f3 = some (nodeOk x) := by
 unfold node_Valid.f nodeOk
 simp only [dotValid_is, dotRoot_is, runesValid_is, node_Dead.f, Option.bind_some]
 have e : ((!(x.f1.f0 == x.f0.f0) || !(x.f1.f1 == x.f0.f1)) = true) ↔ x.f1 ≠ x.f0 := by
  rw [Ne, Dot.ext_iff']; simp; omega
 simp only [e]
 have e1 : x.f2 ≥ 1 ↔ 1 ≤ x.f2 := Iff.rfl
 by_cases h1 : dotOk x.f0 = true
 ·
  by_cases h4 : x.f1 ≠ x.f0
  ·
   by_cases h5 : 1 ≤ x.f2
   ·
    by_cases h6 : x.f2 ≤ 4611686018427387904
    ·
     cases h2 : dotRoot x.f1 <;> cases h3 : dotOk x.f1 <;> cases h8 : runeOk x.f3 <;> by_cases h7 : x.f3 = 0 <;> simp [h1, h2, h3, h4, h5, h6, h7, h8]
    ·
     cases h2 : dotRoot x.f1 <;> cases h3 : dotOk x.f1 <;> simp [h1, h2, h3, h4, h5, h6]
   ·
    cases h2 : dotRoot x.f1 <;> cases h3 : dotOk x.f1 <;> simp [h1, h2, h3, h4, h5]
  ·
   cases h2 : dotRoot x.f1 <;> cases h3 : dotOk x.f1 <;> simp [h1, h2, h3, h4]
 ·
  simp [h1]
theorem cmpCompare_is (a b : Int) : cmp_Compare_int.f a b = some (if a < b then -1 else if b < a then 1 else 0) := by
 unfold cmp_Compare_int.f cmp_isNaN_int.f
 simp
 split
 ·
  rfl
 ·
  split <;> rfl
theorem dotCompare_is (k : Nat) (a b : Dot) : dot_Compare.f (k + 3) a.f0 a.f1 b.f0 b.f1 = some (dotCmp a b) := by
 unfold dot_Compare.f
 simp only [cmpCompare_is, Option.bind_some]
 unfold cmp_Or_int.f dotCmp dotLt
 have w1 : wrap64 1 = 1 := by unfold wrap64; omega
 have w2 : wrap64 (1 + 1) = 2 := by unfold wrap64; omega
 have w3 : wrap64 2 = 2 := by unfold wrap64; omega
 rcases Int.lt_trichotomy a.f1 b.f1 with h | h | h
 ·
  have h' : ¬ b.f1 < a.f1 := by omega
  simp [h, cmp_Or_int.l0, rd]
 ·
  rcases Int.lt_trichotomy a.f0 b.f0 with g | g | g
  ·
   simp [h, g, cmp_Or_int.l0, rd, w1]
  ·
   simp [h, g, cmp_Or_int.l0, rd, w1, w2, w3]
  ·
   have g' : ¬ a.f0 < b.f0 := by omega
   simp [h, g, g', cmp_Or_int.l0, rd, w1]
 ·
  have h' : ¬ a.f1 < b.f1 := by omega
  have h2 : ¬ a.f1 = b.f1 := by omega
  have h3 : ¬ b.f1 = a.f1 := by omega
  simp [h, h', h2, h3, cmp_Or_int.l0, rd]
theorem wrap_one {i : Int} {n : Nat} (h0 : -1 ≤ i) (h : i < (n : Int)) (hn : n ≤ 9223372036854775806) : wrap64 (i + 1) = i + 1 := by
 unfold wrap64; omega
theorem wrap_pred {i : Int} (h0 : 0 ≤ i) (h : i ≤ 9223372036854775806) : wrap64 (i - 1) = i - 1 := by
 unfold wrap64; omega
theorem node_at {w wr : World} {A : Option Addr} {n : Nat} {xs : List Node} (h : Kd.C k42 w A n xs) (hb : Below w.heap.size w wr) (k : Nat) (x : Node) (hk : xs[k]? = some x) :
  ∃ ad, A = some ad ∧ wr.cell? (ad.add (k * 6)) = some (.int .i64 x.f0.f0) ∧ wr.cell? ⟨(ad.add (k * 6)).block, (ad.add (k * 6)).off + 1, none⟩ = some (.int .i64 x.f0.f1) ∧ wr.cell? ⟨(ad.add (k * 6)).block, (ad.add (k * 6)).off + 2, none⟩ = some (.int .i64 x.f1.f0) ∧ wr.cell? ⟨(ad.add (k * 6)).block, (ad.add (k * 6)).off + 3, none⟩ = some (.int .i64 x.f1.f1) ∧ wr.cell? ⟨(ad.add (k * 6)).block, (ad.add (k * 6)).off + 4, none⟩ = some (.int .i64 x.f2) ∧ wr.cell? ⟨(ad.add (k * 6)).block, (ad.add (k * 6)).off + 5, none⟩ = some (.int .i32 x.f3) := by
 have hl := Kd.C_len h
 have hlt := (List.getElem?_eq_some_iff.1 hk).1
 obtain ⟨ad, e, h0, h1, h2, h3, h4, h5⟩ := at_T42 h (k : Int) (by omega) (by omega)
 have hd : zaf xs (k : Int) = x := by simp [zaf, hk]
 rw [hd] at h0 h1 h2 h3 h4 h5
 simp only [Int.toNat_natCast] at h0 h1 h2 h3 h4 h5
 exact ⟨ad, e, zal hb h0, zal hb h1, zal hb h2, zal hb h3, zal hb h4, zal hb h5⟩
def idxFrom (p : Node → Bool) (l : List Node) : Int := match l.findIdx? p with | some i => (i : Int) | none => -1
theorem idxFrom_at {p : Node → Bool} {l : List Node} {k : Nat} {x : Node} (hk : l[k]? = some x) (hx : p x = true) (hno : ∀ j y, j < k → l[j]? = some y → p y = false) : idxFrom p l = k := by
 unfold idxFrom
 rw [List.findIdx?_eq_some_iff_getElem.2 ⟨(List.getElem?_eq_some_iff.1 hk).1, by rw [(List.getElem?_eq_some_iff.1 hk).2]; exact hx, fun j hj => by rw [hno j _ hj (List.getElem?_eq_getElem _)]; simp⟩]
theorem idxFrom_none {p : Node → Bool} {l : List Node} (hno : ∀ j y, j < l.length → l[j]? = some y → p y = false) : idxFrom p l = -1 := by
 unfold idxFrom
 rw [List.findIdx?_eq_none_iff.2 fun x hx => by
  obtain ⟨j, hj⟩ := List.getElem?_of_mem hx
  exact hno j x (List.getElem?_eq_some_iff.1 hj).1 hj]
theorem no_step {p : Node → Bool} {l : List Node} {k : Nat} {x : Node} (hk : l[k]? = some x) (hx : p x = false) (hno : ∀ j y, j < k → l[j]? = some y → p y = false) : ∀ j y, j < k + 1 → l[j]? = some y → p y = false := by
 intro j y hj hy
 rcases Nat.lt_succ_iff_lt_or_eq.1 hj with h | h
 ·
  exact hno j y h hy
 ·
  subst h; rw [hk] at hy; cases hy; exact hx
set_option maxHeartbeats 400000 in
theorem IndexFuncNode.calls (p : Node → Bool) (fn : Nat) (caps : Array Value) (A0 : Option Addr) (c0 : Nat) (l0 : List Node) (w : World) (hr0 : Kd.C k42 w A0 l0.length l0) (hc0 : l0.length ≤ c0)
  (hcall : ∀ args W, (callFunc fn args).run Tryz.prog W = .ok (.enter fn args) W)
  (hp : ∀ x W, Below w.heap.size w W → Calls Tryz.prog fn (#[vNode x] ++ caps) W fun e W' => e = .returned (.bool (p x)) ∧ Below W.heap.size W W') :
  Calls Tryz.prog 88 #[.slice A0 l0.length c0, .func (.func fn) #[] caps] w fun e w' => e = .returned (.int .i64 (idxFrom p l0)) ∧ Below w.heap.size w w' := by
 have hm := Kd.C_max hr0
 have hu := Tryz.underlying42
 have HR := za0.mk hr0
 have HP := za0.mk hp
 have HC := za0.mk hc0
 clear hr0 hp hc0
 go_enter Tryz.func88, Tryz.ntmps88
 go_wp2
 go_loopw [5, 8] (fun _ i wr => ∃ k : Nat, k ≤ l0.length ∧ i = .int .i64 k ∧ za0 (∀ j y, j < k → l0[j]? = some y → p y = false) ∧ za0 (Below w.heap.size w wr)) (fun _ i _ => l0.length - (intOf i).toNat)
 case atStart => exact ⟨0, Nat.zero_le _, rfl, ⟨fun j y hj => absurd hj (Nat.not_lt_zero _)⟩, ⟨Below.refl _ _⟩⟩
 case round =>
  obtain ⟨k, hk, rfl, hno, hb⟩ := hrel
  by_cases hlt : k < l0.length
  ·
   obtain ⟨x, hx⟩ : ∃ x, za0 (l0[k]? = some x) := ⟨_, ⟨List.getElem?_eq_getElem hlt⟩⟩
   obtain ⟨ad, e, h0, h1, h2, h3, h4, h5⟩ := node_at HR.out hb.out k x hx.out
   subst e
   cases hpx : p x with
   | true =>
    have HX := za0.mk hpx
    clear hpx
    go_wp2
    refine (HP.out x _ hb.out).mono ?_
    rintro e W' ⟨rfl, hb2⟩
    rw [HX.out]
    go_wp2
    go_ret
    exact ⟨by rw [idxFrom_at hx.out HX.out hno.out]; rfl, below_then hb.out hb.out.size hb2⟩
   | false =>
    have HX := za0.mk hpx
    clear hpx
    go_wp2
    refine (HP.out x _ hb.out).mono ?_
    rintro e W' ⟨rfl, hb2⟩
    rw [HX.out]
    go_wp2
    go_roundw
    case rel => exact ⟨k + 1, by omega, by go_num, ⟨no_step hx.out HX.out hno.out⟩, ⟨below_then hb.out hb.out.size hb2⟩⟩
    case measure => simp [intOf]; omega
  ·
   go_wp2
   go_ret
   obtain rfl : k = l0.length := by omega
   exact ⟨by rw [idxFrom_none hno.out]; rfl, hb.out⟩
set_option maxHeartbeats 400000 in
theorem ContainsFuncNode.calls (p : Node → Bool) (fn : Nat) (caps : Array Value) (A0 : Option Addr) (c0 : Nat) (l0 : List Node) (w : World) (hr0 : Kd.C k42 w A0 l0.length l0) (hc0 : l0.length ≤ c0)
  (hcall : ∀ args W, (callFunc fn args).run Tryz.prog W = .ok (.enter fn args) W)
  (hp : ∀ x W, Below w.heap.size w W → Calls Tryz.prog fn (#[vNode x] ++ caps) W fun e W' => e = .returned (.bool (p x)) ∧ Below W.heap.size W W') :
  Calls Tryz.prog 65 #[.slice A0 l0.length c0, .func (.func fn) #[] caps] w fun e w' => e = .returned (.bool (l0.any p)) ∧ Below w.heap.size w w' := by
 have HI := za0.mk (IndexFuncNode.calls p fn caps A0 c0 l0 w hr0 hc0 hcall hp)
 clear hr0 hc0 hp hcall
 go_enter Tryz.func65, Tryz.ntmps65
 go_wp2_with fail
 refine HI.out.mono ?_
 rintro e W' ⟨rfl, hb⟩
 have hi : decide (idxFrom p l0 ≥ 0) = l0.any p := by
  unfold idxFrom
  cases h : l0.findIdx? p with
  | none => simp [List.findIdx?_eq_none_iff] at h; simp; exact h
  | some i => simp; exact ⟨_, List.getElem_mem (List.findIdx?_eq_some_iff_getElem.1 h).1, (List.findIdx?_eq_some_iff_getElem.1 h).2.1⟩
 have HI2 := za0.mk hi
 clear hi
 go_wp2
 go_ret
 exact ⟨by rw [← HI2.out]; rfl, hb⟩
theorem invalid_is (k : Nat) (x : Node) : store_invalid.f (k + 1) x.f0.f0 x.f0.f1 x.f1.f0 x.f1.f1 x.f2 x.f3 = some (!nodeOk x) := by
 unfold store_invalid.f
 rw [nodeValid_is]; rfl
theorem incB_drop_cons (l : List Dot) (i : Nat) (h : i + 1 < l.length) : incB (l.drop i) = (dotLt l[i] l[i + 1] && incB (l.drop (i + 1))) := by
 rw [List.drop_eq_getElem_cons (by omega), List.drop_eq_getElem_cons (i := i + 1) (by omega)]; rfl
theorem isSet_from (l : List Dot) (hl : l.length ≤ 9223372036854775806) (d : Nat) : ∀ (k i : Nat), i + d = l.length → d + 3 < k → dot_IsSet.l0 k l ((i : Int) + 1) = some (incB (l.drop i)) := by
 induction d with
 | zero =>
  intro k i hd hk
  obtain ⟨k, rfl⟩ : ∃ m, k = m + 1 := ⟨k - 1, by omega⟩
  simp only [dot_IsSet.l0]
  rw [if_neg (by omega), List.drop_of_length_le (by omega)]; rfl
 | succ d ih =>
  intro k i hd hk
  obtain ⟨k, rfl⟩ : ∃ m, k = m + 1 := ⟨k - 1, by omega⟩
  simp only [dot_IsSet.l0]
  by_cases hlt : i + 1 < l.length
  ·
   have hw : wrap64 ((i : Int) + 1 - 1) = (i : Int) := by rw [wrap_pred (by omega) (by omega)]; omega
   have hw2 : wrap64 ((i : Int) + 1 + 1) = ((i + 1 : Nat) : Int) + 1 := by rw [wrap_one (n := l.length) (by omega) (by omega) (by omega)]; omega
   rw [if_pos (by omega), hw, if_pos (by omega), if_pos (by omega), if_pos (by omega)]
   obtain ⟨k, rfl⟩ : ∃ m, k = m + 3 := ⟨k - 3, by omega⟩
   have e1 : zas l (i : Int) = l[i] := by simp [zas, show i < l.length by omega]
   have e2 : zas l ((i : Int) + 1) = l[i + 1] := by
    have : ((i : Int) + 1).toNat = i + 1 := by omega
    simp [zas, this, hlt]
   rw [e1, e2, dotCompare_is, hw2, incB_drop_cons l i hlt]
   simp only [Option.bind_some]
   rw [ih (k + 3) (i + 1) (by omega) (by omega)]
   cases h : dotLt l[i] l[i + 1]
   ·
    rw [if_pos ((dotCmp_ge _ _).2 (by simp [h]))]; rfl
   ·
    rw [if_neg (fun hg => (dotCmp_ge _ _).1 hg h)]; simp
  ·
   rw [if_neg (by omega)]
   have : l.drop i = [l[i]'(by omega)] := by
    rw [List.drop_eq_getElem_cons (by omega), List.drop_of_length_le (by omega)]
   rw [this]; rfl
theorem isSet_is (l : List Dot) (hl : l.length ≤ 1000000) : dot_IsSet.f 1000005 l = some (incB l) := by
 have h := isSet_from l (by omega) l.length 1000005 0 (by omega) (by omega)
 exact h
theorem dots_from (l : List Node) (hl : l.length ≤ 1000000) (d : Nat) : ∀ (k i : Nat), i + d = l.length → d < k → store_dots.l0 k ((l.take i).map (·.f0)) l (l.length : Int) (i : Int) = some (l.map (·.f0)) := by
 induction d with
 | zero =>
  intro k i hd hk
  obtain ⟨k, rfl⟩ : ∃ m, k = m + 1 := ⟨k - 1, by omega⟩
  simp only [store_dots.l0]
  rw [if_neg (by omega), List.take_of_length_le (by omega)]
 | succ d ih =>
  intro k i hd hk
  obtain ⟨k, rfl⟩ : ∃ m, k = m + 1 := ⟨k - 1, by omega⟩
  simp only [store_dots.l0]
  rw [if_pos (by omega), if_pos (by omega), if_pos (by omega), if_pos (by simp; omega), wrap_one (n := l.length) (by omega) (by omega) (by omega)]
  have e : zaf l (i : Int) = l[i]'(by omega) := by simp [zaf, show i < l.length by omega]
  have h := ih k (i + 1) (by omega) (by omega)
  rw [List.take_succ_eq_append_getElem (by omega), List.map_append] at h
  rw [e]
  exact h
theorem dots_is (l : List Node) (hl : l.length ≤ 1000000) : store_dots.f 1000001 l = some (l.map (·.f0)) := by
 have h := dots_from l hl l.length 1000001 0 (by omega) (by omega)
 exact h
def store_Valid.f (l0 : List Node) : Option Bool := if l0.length ≤ 1000000 then some (storeOk l0) else none
set_option maxHeartbeats 400000 in
set_option maxRecDepth 100000 in
theorem store_Valid.calls (A0 : Option Addr) (c0 : Nat) (l0 : List Node) (r : Bool) (w : World) (hr0 : Kd.C k42 w A0 l0.length l0) (hc0 : l0.length ≤ c0) (h : store_Valid.f l0 = some r) :
  Calls Tryz.prog 48 #[.slice A0 l0.length c0] w fun e w' => e = .returned (.bool r) ∧ Below w.heap.size w w' := by
 unfold store_Valid.f at h
 by_cases hl : l0.length ≤ 1000000
 ·
  rw [if_pos hl] at h
  have hr := za0.mk (Option.some.inj h)
  have HR := za0.mk hr0
  have HC := za0.mk hc0
  have HL := za0.mk hl
  clear h hr0 hc0 hl
  go_enter Tryz.func48, Tryz.ntmps48
  go_wp2_with fail
  refine (ContainsFuncNode.calls (fun x => !nodeOk x) 66 #[] A0 c0 l0 _ HR.out HC.out Tryz.call66 (fun x W hW => store_invalid.calls 1 _ _ _ _ _ _ _ W (invalid_is 0 x))).mono ?_
  rintro e W' ⟨rfl, hb⟩
  cases ha : l0.any (fun x => !nodeOk x) with
  | true =>
   have H1 := za0.mk ha
   clear ha
   go_wp2_with fail
   go_ret
   refine ⟨?_, hb⟩
   rw [← hr.out, storeOk]
   have : l0.all nodeOk = false := by
    have := H1.out
    rw [List.any_eq_true] at this
    obtain ⟨x, hx, hn⟩ := this
    rw [List.all_eq_false]
    exact ⟨x, hx, by simpa using hn⟩
   rw [this]; rfl
  | false =>
   have H1 := za0.mk ha
   clear ha
   go_wp2_with fail
   obtain ⟨ds, Hd⟩ : ∃ ds, za0 (ds = l0.map (·.f0)) := ⟨_, ⟨rfl⟩⟩
   refine (store_dots.calls 1000001 A0 c0 l0 ds _ (Kd.C_below HR.out hb) HC.out (by rw [Hd.out]; exact dots_is l0 HL.out)).mono ?_
   rintro e W2 ⟨v2, rfl, ho, hb2⟩
   obtain ⟨A2, c2, rfl, hc2, hr2⟩ := Kd.R_reads ho
   have H2 := za0.mk hr2
   have H3 := za0.mk hc2
   clear hr2 hc2 ho
   go_wp2_with fail
   refine (dot_IsSet.calls 1000005 _ _ _ _ _ H2.out H3.out (isSet_is ds (by rw [Hd.out, List.length_map]; exact HL.out))).mono ?_
   rintro e W3 ⟨rfl, hb3⟩
   have hall : l0.all nodeOk = true := by
    rw [List.all_eq_true]
    intro x hx
    have := H1.out
    rw [List.any_eq_false] at this
    simpa using this x hx
   have H4 := za0.mk hall
   clear hall
   have HB := za0.mk (below_then (below_then hb hb.size hb2) (below_then hb hb.size hb2).size hb3)
   cases hi : incB ds with
   | true =>
    have H5 := za0.mk hi
    clear hi
    go_wp2_with fail
    go_ret
    exact ⟨by rw [← hr.out, storeOk, H4.out, ← Hd.out, H5.out]; rfl, HB.out⟩
   | false =>
    have H5 := za0.mk hi
    clear hi
    go_wp2_with fail
    go_ret
    exact ⟨by rw [← hr.out, storeOk, H4.out, ← Hd.out, H5.out]; rfl, HB.out⟩
 ·
  rw [if_neg hl] at h; cases h
end
end
end Go.Proofs.YtefejajofmpjdaaGreat.PWalk
end
section
namespace Go.AnyOrder
section
variable {P : Program} {ops : Array Oper} {Q : Exit → Act → World → Prop} {md : Region.Mode}
/-- How many are still to come. -/
def todo (n : Nat) (L : Array Bool) : Nat := (List.range n).countP fun i => !L.getD i true
theorem countP_lt {p q : Nat → Bool} : ∀ l : List Nat, (∀ x ∈ l, q x = true → p x = true) → (∃ x ∈ l, p x = true ∧ q x = false) → l.countP q < l.countP p
 | [], _, h => by simp at h
 | y :: l, hpq, h => by
  have hle : l.countP q ≤ l.countP p := List.countP_mono_left fun x hx => hpq x (List.mem_cons_of_mem _ hx)
  have hy := hpq y List.mem_cons_self
  rw [List.countP_cons, List.countP_cons]
  obtain ⟨x, hx, h1, h2⟩ := h
  rcases List.mem_cons.1 hx with rfl | hx
  ·
   rw [h1, h2]; simp; omega
  ·
   have := countP_lt l (fun x hx => hpq x (List.mem_cons_of_mem _ hx)) ⟨x, hx, h1, h2⟩
   by_cases hq : q y = true
   ·
    rw [hq, hy hq]; simp; omega
   ·
    have e : (if q y = true then 1 else 0) = 0 := if_neg hq
    rw [e]; omega
theorem todo_set {n i : Nat} {L : Array Bool} (hi : i < n) (h : L.getD i true = false) : todo n (L.setIfInBounds i true) < todo n L := by
 refine countP_lt _ (fun x _ hx => ?_) ⟨i, List.mem_range.2 hi, by simp [h], ?_⟩
 ·
  by_cases e : x = i
  ·
   subst e; simp [h]
  ·
   simpa [Array.getD_eq_getD_getElem?, Array.getElem?_setIfInBounds, Ne.symm e] using hx
 ·
  simp [Array.getD_eq_getD_getElem?, Array.getElem?_setIfInBounds]
  split <;> rfl
theorem mem_ready {L : Array Bool} {i : Nat} (h : i ∈ Region.ready md ops L) : i < ops.size ∧ L.getD i true = false ∧ (((ops[i]?).map (·.after.all fun e => !Region.binds md e || L.getD e.on false)).getD false) = true := by
 unfold Region.ready at h
 obtain ⟨h1, h2⟩ := List.mem_filter.1 h
 simp only [Bool.and_eq_true, Bool.not_eq_true'] at h2
 exact ⟨List.mem_range.1 h1, h2⟩
/-- What an operation that may come up waits for has come up. -/
theorem dep {L : Array Bool} {i q : Nat} {o : Oper} {e : Edge} (h : i ∈ Region.ready md ops L) (ho : ops[i]? = some o) (he : o.after[q]? = some e) (hb : Region.binds md e = true) : L.getD e.on false = true := by
 obtain ⟨_, _, h3⟩ := mem_ready h
 rw [ho] at h3
 simp only [Option.map_some, Option.getD_some] at h3
 rw [Array.all_eq_true'] at h3
 have := h3 e (Array.mem_of_getElem? he)
 rw [hb] at this
 exact this
theorem ready_nil {L : Array Bool} (h : todo ops.size L = 0) : Region.ready md ops L = [] := by
 rw [List.eq_nil_iff_forall_not_mem]
 intro i hi
 obtain ⟨h1, h2, _⟩ := mem_ready hi
 have := List.countP_eq_zero.1 h i (List.mem_range.2 h1)
 simp [h2] at this
theorem wpAny_inv (Inv : Array Bool → Act → World → Prop)
  (step : ∀ L a w i, Inv L a w → i ∈ Region.ready md ops L → ∀ K : Act → World → Prop, (∀ a' w', Inv (L.setIfInBounds i true) a' w' → K a' w') → wpOp P ops Q i K a w)
  (last : ∀ L a w, Inv L a w → Region.ready md ops L = [] → Q .normal a w) :
  ∀ (fuel : Nat) (L : Array Bool) (a : Act) (w : World), todo ops.size L ≤ fuel → Inv L a w → wpAny P md ops Q fuel L a w := by
 intro fuel
 induction fuel with
 | zero => intro L a w h hi; exact ⟨ready_nil (by omega), last _ _ _ hi (ready_nil (by omega))⟩
 | succ fuel ih =>
  intro L a w h hi
  refine ⟨fun hr => last _ _ _ hi hr, fun i hmem => step L a w i hi hmem _ fun a' w' hi' => ih _ _ _ ?_ hi'⟩
  have := mem_ready hmem
  have := todo_set this.1 this.2.1
  omega
/-- A region that draws. -/
theorem wp_region {id : Nat} {a : Act} {w : World} (hm : P.follows .mixedOrders = true) (Inv : Array Bool → Act → World → Prop)
  (start : Inv (Array.replicate ops.size false) a w.drew)
  (step : ∀ L a w i, Inv L a w → i ∈ Region.ready .any ops L → ∀ K : Act → World → Prop, (∀ a' w', Inv (L.setIfInBounds i true) a' w' → K a' w') → wpOp P ops Q i K a w)
  (last : ∀ L a w, Inv L a w → Region.ready .any ops L = [] → Q .normal a w) : (Code.region id ops true).wp P Q a w := by
 refine wp_region_any hm (wpAny_inv Inv step last _ _ _ _ ?_ start)
 exact Nat.le_trans List.countP_le_length (by simp)
/-- An operation that is to be carried out. -/
theorem wpOp_go {i : Nat} {o : Oper} {K : Act → World → Prop} {a : Act} {w : World} (ho : ops[i]? = some o) (hw : Region.wanted o (yielded ops a.tmps) = true) (h : o.wp P a w K Q) : wpOp P ops Q i K a w := by
 unfold wpOp; rw [ho]; simp only [hw, if_true]; exact .inl h
/-- One that is left out. -/
theorem wpOp_out {i : Nat} {o : Oper} {K : Act → World → Prop} {a : Act} {w : World} (ho : ops[i]? = some o) (hw : Region.wanted o (yielded ops a.tmps) = false) (h : K (a.put o.dst undef) w) : wpOp P ops Q i K a w := by
 unfold wpOp; rw [ho]; simp only [hw]; exact h
/-- Where nothing may come up any more, all have come up (no operation waits for a later one). -/
theorem all_listed {L : Array Bool} (hs : L.size = ops.size) (hd : ((List.range ops.size).all fun i => ((ops[i]?).map (·.after.all fun e => !Region.binds md e || decide (e.on < i))).getD true) = true) (hr : Region.ready md ops L = []) :
  ∀ i, i < ops.size → L.getD i true = true := by
 intro i
 induction i using Nat.strongRecOn with
 | _ i ih =>
  intro hi
  cases hl : L.getD i true with
  | true => rfl
  | false =>
   exfalso
   have hmem : i ∈ Region.ready md ops L := by
    unfold Region.ready
    refine List.mem_filter.2 ⟨List.mem_range.2 hi, ?_⟩
    have h1 := List.all_eq_true.1 hd i (List.mem_range.2 hi)
    rw [Array.getElem?_eq_getElem hi] at h1 ⊢
    simp only [Option.map_some, Option.getD_some] at h1 ⊢
    rw [hl]
    simp only [Bool.not_false, Bool.true_and]
    rw [Array.all_eq_true'] at h1 ⊢
    intro e he
    have h2 := h1 e he
    simp only [Bool.or_eq_true, Bool.not_eq_true', decide_eq_true_eq] at h2 ⊢
    rcases h2 with h2 | h2
    ·
     exact .inl h2
    ·
     have h3 := ih e.on h2 (by omega)
     refine .inr ?_
     rw [Array.getD_eq_getD_getElem?] at h3 ⊢
     rw [Array.getElem?_eq_getElem (by omega)] at h3 ⊢
     exact h3
   rw [hr] at hmem
   cases hmem
/-- Which one it is, out of a list of all. -/
def among (i : Nat) : List Nat → Prop
 | [] => False
 | k :: r => match r with
  | [] => i = k
  | _ :: _ => i = k ∨ among i r
theorem among_of {i : Nat} : ∀ {l : List Nat}, l.contains i = true → among i l
 | [], h => by simp at h
 | [k], h => by
  rw [List.contains_cons, Bool.or_eq_true, beq_iff_eq] at h
  exact h.elim id fun h => by simp at h
 | k :: m :: r, h => by
  rw [List.contains_cons, Bool.or_eq_true, beq_iff_eq] at h
  exact h.imp id among_of
theorem up {L : Array Bool} {i : Nat} (h : i ∈ Region.ready md ops L) (l : List Nat) (hl : (List.range ops.size).all l.contains = true) : among i l :=
 among_of (List.all_eq_true.1 hl i (List.mem_range.2 (mem_ready h).1))
/-- What an operation that may come up needs: it has not come up, and what it waits for has. -/
def needs (md : Region.Mode) (L : Array Bool) : List Edge → Prop
 | [] => ∀ p : Prop, p → p
 | e :: r => match Region.binds md e with
  | true => L.getD e.on false = true ∧ needs md L r
  | false => needs md L r
theorem first {L : Array Bool} {i : Nat} {o : Oper} (h : i ∈ Region.ready md ops L) (ho : ops[i]? = some o) : L.getD i true = false ∧ needs md L o.after.toList := by
 refine ⟨(mem_ready h).2.1, ?_⟩
 have hd : ∀ l : List Edge, (∀ e ∈ l, ∃ q : Nat, o.after[q]? = some e) → needs md L l := by
  intro l
  induction l with
  | nil => intro _ p hp; exact hp
  | cons e r ih =>
   intro hl
   have hr := ih fun e he => hl e (List.mem_cons_of_mem _ he)
   obtain ⟨q, hq⟩ := hl e List.mem_cons_self
   unfold needs
   cases hb : Region.binds md e with
   | true => exact ⟨dep h ho hq hb, hr⟩
   | false => exact hr
 exact hd _ fun e he => by
  obtain ⟨q, hq, e2⟩ := List.getElem_of_mem he
  exact ⟨q, by rw [← e2]; simp only [Array.length_toList] at hq; rw [Array.getElem?_eq_getElem hq]; rfl⟩
def allT : List Bool → Prop
 | [] => True
 | b :: r => b = true ∧ allT r
theorem alls {L : Array Bool} (hs : L.size = ops.size) (hd : ((List.range ops.size).all fun i => ((ops[i]?).map (·.after.all fun e => !Region.binds md e || decide (e.on < i))).getD true) = true) (hr : Region.ready md ops L = []) : allT L.toList := by
 have h := all_listed hs hd hr
 have hm : ∀ l : List Bool, (∀ b ∈ l, b = true) → allT l := by
  intro l
  induction l with
  | nil => intro _; trivial
  | cons b r ih => exact fun hl => ⟨hl b List.mem_cons_self, ih fun x hx => hl x (List.mem_cons_of_mem _ hx)⟩
 refine hm _ fun b hb => ?_
 obtain ⟨q, hq, e⟩ := List.getElem_of_mem hb
 rw [Array.length_toList] at hq
 have := h q (by omega)
 rw [Array.getD_eq_getD_getElem?, Array.getElem?_eq_getElem hq] at this
 rw [← e]
 exact this
end
end Go.AnyOrder
end
section
namespace Go.Proofs.YtefejajofmpjdaaGreat.PWalk
open Go.RowKit Go.Proofs.YtefejajofmpjdaaGreatW.PrintWords Go.Proofs.YtefejajofmpjdaaGreatW.PrintLast Go.Proofs.YtefejajofmpjdaaGreatW.PrintMore
set_option linter.unusedVariables false
set_option linter.unusedSimpArgs false
open Go.Shelf
attribute [local go_sem] Oper.semAt_some
section
/-- A node stands before another one with the same parent. -/
def nodeLt (a b : Node) : Bool := if a.f2 = b.f2 then dotLt b.f0 a.f0 else decide (b.f2 < a.f2)
def Gr (w W : World) : Prop := ∃ (q : Nat) (os : Array Obj), W = Go.Sort.grow (w.drewN q) os
theorem Gr.trans {a b c : World} (h : Gr a b) (k : Gr b c) : Gr a c := by
 obtain ⟨q, os, rfl⟩ := h
 obtain ⟨q', os', rfl⟩ := k
 exact ⟨q + q', os ++ os', by show Go.Sort.grow (Go.Sort.grow ((a.drewN q).drewN q') os) os' = _; rw [Go.Sort.grow_grow, World.drewN_drewN]⟩
theorem Gr.drew (w : World) : Gr w w.drew := ⟨1, #[], by rw [Go.Sort.grow_empty]; rfl⟩
theorem Gr.alloc (w : World) (o : Obj) : Gr w (w.alloc o) := ⟨0, #[o], by rw [Go.Sort.alloc_eq_grow]; rfl⟩
theorem Gr.drawn {w W : World} (h : zao w W) : Gr w W := by
 obtain ⟨n, rfl⟩ := h
 exact ⟨n, #[], by rw [Go.Sort.grow_empty]⟩
theorem Gr.below {w W : World} (h : Gr w W) : Below w.heap.size w W := by
 obtain ⟨q, os, rfl⟩ := h
 exact ⟨rfl, rfl, rfl, by show w.heap.size ≤ (w.heap ++ os).size; simp, fun k hk => by show (w.heap ++ os)[k]? = _; rw [Array.getElem?_append_left hk]⟩
theorem Gr.blk {w W : World} (h : Gr w W) {g : Nat} {o : Obj} (hg : w.heap[g]? = some o) : W.heap[g]? = some o := zab hg h.below
def cmpI (a b : Int) : Int := if a < b then -1 else if b < a then 1 else 0
theorem cmpI_call (a b : Int) (W : World) : Calls Tryz.prog 44 #[.int .i64 a, .int .i64 b] W fun e W' => e = .returned (.int .i64 (cmpI a b)) ∧ Gr W W' :=
 (cmp_Compare_int.calls a b _ W (cmpCompare_is a b)).mono fun _ _ ⟨he, hd⟩ => ⟨he, Gr.drawn hd⟩
def orI (a b : Int) : Int := if a = 0 then b else a
theorem orI_call (a b : Int) (g : Nat) (W : World) (hg : W.heap[g]? = some (.cells #[.int .i64 a, .int .i64 b] 3 (0, 0))) : Calls Tryz.prog 43 #[.slice (some ⟨g, 0, none⟩) 2 2] W fun e W' => e = .returned (.int .i64 (orI a b)) ∧ Gr W W' := by
 refine (cmp_Or_int.calls 5 (some ⟨g, 0, none⟩) 2 [a, b] (orI a b) W ?_ (Nat.le_refl _) ?_).mono fun _ _ ⟨he, hd⟩ => ⟨he, Gr.drawn hd⟩
 ·
  refine ⟨rfl, by simp, fun _ => ⟨_, rfl, fun i x hi => ⟨[.int .i64 x], rfl, rfl, fun j u hu => ?_⟩⟩⟩
  rcases i with _ | _ | i
  ·
   rcases j with _ | j
   ·
    simp only [List.getElem?_cons_zero, Option.some.injEq] at hi hu; subst hi hu
    exact (za4 hg 0).trans rfl
   ·
    simp at hu
  ·
   rcases j with _ | j
   ·
    simp only [List.getElem?_cons_zero, List.getElem?_cons_succ, Option.some.injEq] at hi hu; subst hi hu
    exact (za4 hg 1).trans rfl
   ·
    simp at hu
  ·
   simp at hi
 ·
  unfold cmp_Or_int.f orI
  have w1 : wrap64 1 = 1 := by unfold wrap64; omega
  have w2 : wrap64 2 = 2 := by unfold wrap64; omega
  have w3 : wrap64 (1 + 1) = 2 := by unfold wrap64; omega
  by_cases h0 : a = 0
  ·
   by_cases h1 : b = 0
   ·
    simp [cmp_Or_int.l0, rd, h0, h1, w1, w2, w3]
   ·
    simp [cmp_Or_int.l0, rd, h0, h1, w1]
  ·
   simp [cmp_Or_int.l0, rd, h0]
theorem orI_dot (a b : Dot) : orI (cmpI a.f1 b.f1) (cmpI a.f0 b.f0) = dotCmp a b := by
 unfold orI cmpI dotCmp dotLt
 rcases Int.lt_trichotomy a.f1 b.f1 with h | h | h
 ·
  simp [h]
 ·
  rcases Int.lt_trichotomy a.f0 b.f0 with g | g | g
  ·
   simp [h, g]
  ·
   simp [h, g]
  ·
   have g' : ¬ a.f0 < b.f0 := by omega
   simp [h, g, g']
 ·
  have h' : ¬ a.f1 < b.f1 := by omega
  have h2 : ¬ a.f1 = b.f1 := by omega
  have h3 : ¬ b.f1 = a.f1 := by omega
  simp [h, h', h2, h3]
def sel (b : Bool) (v : Value) : Value := if b then v else undef
@[simp] theorem sel_true (v : Value) : sel true v = v := rfl
@[simp] theorem sel_false (v : Value) : sel false v = undef := rfl
/-- A place that an operation turns from u to v. -/
def selv (b : Bool) (v u : Value) : Value := if b then v else u
@[simp] theorem selv_true (v u : Value) : selv true v u = v := rfl
@[simp] theorem selv_false (v u : Value) : selv false v u = u := rfl
/-- Two boxes, and the pair of answers once it is laid. -/
structure Two (W0 : World) (A B : Nat) (oA oB : Obj) (x y : Int) (l : Bool) (g : Nat) (V : World) : Prop where
 gr : Gr W0 V
 a : W0.heap[A]? = some oA
 b : W0.heap[B]? = some oB
 pair : l = true → V.heap[g]? = some (.cells #[.int .i64 x, .int .i64 y] 3 (0, 0))
theorem Two.more {W0 : World} {A B : Nat} {oA oB : Obj} {x y : Int} {l : Bool} {g : Nat} {V V' : World} (h : Two W0 A B oA oB x y l g V) (k : Gr V V') : Two W0 A B oA oB x y l g V' := ⟨h.gr.trans k, h.a, h.b, fun e => k.blk (h.pair e)⟩
theorem Two.laid {W0 : World} {A B : Nat} {oA oB : Obj} {x y : Int} {l : Bool} {g : Nat} {V : World} (h : Two W0 A B oA oB x y l g V) : Two W0 A B oA oB x y true V.heap.size (V.alloc (.cells #[.int .i64 x, .int .i64 y] 3 (0, 0))) := ⟨h.gr.trans (Gr.alloc _ _), h.a, h.b, fun _ => zaj _ _⟩
def dotCmpInv (W0 : World) (A B : Nat) (a b : Dot) (L : Array Bool) (ac : Act) (V : World) : Prop := ∃ (l0 l1 l2 l3 l4 l5 l6 l7 l8 l9 l10 l11 l12 : Bool) (g : Nat), L = #[l0, l1, l2, l3, l4, l5, l6, l7, l8, l9, l10, l11, l12] ∧ ac = { tmps := #[vDot a, vDot b, .pointer (some ⟨A, 0, none⟩), .pointer (some ⟨B, 0, none⟩), selv l12 (.int .i64 (orI (cmpI a.f1 b.f1) (cmpI a.f0 b.f0))) (.int .i64 0), sel l0 (.pointer (some ⟨A, 1, none⟩)), sel l1 (.int .i64 a.f1), sel l2 (.pointer (some ⟨B, 1, none⟩)), sel l3 (.int .i64 b.f1), sel l4 (.int .i64 (cmpI a.f1 b.f1)), sel l5 (.pointer (some ⟨A, 0, none⟩)), sel l6 (.int .i64 a.f0), sel l7 (.pointer (some ⟨B, 0, none⟩)), sel l8 (.int .i64 b.f0), sel l9 (.int .i64 (cmpI a.f0 b.f0)), sel l10 (.slice (some ⟨g, 0, none⟩) 2 2), sel l11 (.int .i64 (orI (cmpI a.f1 b.f1) (cmpI a.f0 b.f0)))], defers := [] } ∧ za0 (Two W0 A B (.cells #[.int .i64 a.f0, .int .i64 a.f1] 39 (0, 0)) (.cells #[.int .i64 b.f0, .int .i64 b.f1] 39 (0, 0)) (cmpI a.f1 b.f1) (cmpI a.f0 b.f0) l10 g V)
set_option maxHeartbeats 1000000 in
set_option maxRecDepth 100000 in
theorem dotCmp_call (a b : Dot) (w : World) : Calls Tryz.prog 45 #[vDot a, vDot b] w fun e w' => e = .returned (.int .i64 (dotCmp a b)) ∧ Gr w w' := by
 have hB : ((w.alloc (.cells #[.int .i64 a.f0, .int .i64 a.f1] 39 (0, 0))).alloc (.cells #[.int .i64 b.f0, .int .i64 b.f1] 39 (0, 0))).heap[w.heap.size + 1]? = some (.cells #[.int .i64 b.f0, .int .i64 b.f1] 39 (0, 0)) := by have := zaj (w.alloc (.cells #[.int .i64 a.f0, .int .i64 a.f1] 39 (0, 0))) (.cells #[.int .i64 b.f0, .int .i64 b.f1] 39 (0, 0)); rwa [World.size_alloc] at this
 have HB := za0.mk hB
 clear hB
 go_enter Tryz.func45, Tryz.ntmps45
 go_wp2_with fail
 have hB := HB.out
 refine AnyOrder.wp_region (by kernel_rfl) (dotCmpInv ((w.alloc (.cells #[.int .i64 a.f0, .int .i64 a.f1] 39 (0, 0))).alloc (.cells #[.int .i64 b.f0, .int .i64 b.f1] 39 (0, 0))) w.heap.size (w.heap.size + 1) a b) ?start ?step ?last
 case start => exact ⟨false, false, false, false, false, false, false, false, false, false, false, false, false, 0, rfl, rfl, ⟨⟨Gr.drew _, za6 (zaj _ _) _, hB, fun h => by cases h⟩⟩⟩
 case step =>
  rintro L ac V i ⟨l0, l1, l2, l3, l4, l5, l6, l7, l8, l9, l10, l11, l12, g, rfl, rfl, HF⟩ hi K hK
  rcases AnyOrder.up hi [0, 2, 5, 7, 12, 1, 3, 4, 9, 6, 8, 10, 11] rfl with rfl | rfl | rfl | rfl | rfl | rfl | rfl | rfl | rfl | rfl | rfl | rfl | rfl
  all_goals
   replace hi := AnyOrder.first hi rfl
   repeat (obtain ⟨ha, hi⟩ := hi; first | obtain rfl := ha | clear ha)
   clear hi
   try simp only [sel_true, selv_true] at hK ⊢
  iterate 5
   ·
    refine AnyOrder.wpOp_go rfl (by rfl) ?_
    go_wp2_with fail
    exact ⟨_, _, _, _, _, _, _, _, _, _, _, _, _, g, rfl, rfl, HF⟩
  ·
   have c1 : V.cell? ⟨w.heap.size, 1, none⟩ = _ := (za4 (HF.out.gr.blk HF.out.a) 1).trans rfl
   refine AnyOrder.wpOp_go rfl (by rfl) ?_
   go_wp2_with fail
   exact ⟨_, _, _, _, _, _, _, _, _, _, _, _, _, g, rfl, rfl, HF⟩
  ·
   have c1 : V.cell? ⟨w.heap.size + 1, 1, none⟩ = _ := (za4 (HF.out.gr.blk HF.out.b) 1).trans rfl
   refine AnyOrder.wpOp_go rfl (by rfl) ?_
   go_wp2_with fail
   exact ⟨_, _, _, _, _, _, _, _, _, _, _, _, _, g, rfl, rfl, HF⟩
  iterate 2
   ·
    refine AnyOrder.wpOp_go rfl (by rfl) ?_
    go_wp2_with fail
    refine (cmpI_call _ _ V).mono ?_
    rintro e V' ⟨rfl, hb⟩
    exact hK _ _ ⟨_, _, _, _, _, _, _, _, _, _, _, _, _, g, rfl, rfl, ⟨HF.out.more hb⟩⟩
  ·
   have c0 : V.cell? ⟨w.heap.size, 0, none⟩ = _ := (za4 (HF.out.gr.blk HF.out.a) 0).trans rfl
   refine AnyOrder.wpOp_go rfl (by rfl) ?_
   go_wp2_with fail
   exact ⟨_, _, _, _, _, _, _, _, _, _, _, _, _, g, rfl, rfl, HF⟩
  ·
   have c0 : V.cell? ⟨w.heap.size + 1, 0, none⟩ = _ := (za4 (HF.out.gr.blk HF.out.b) 0).trans rfl
   refine AnyOrder.wpOp_go rfl (by rfl) ?_
   go_wp2_with fail
   exact ⟨_, _, _, _, _, _, _, _, _, _, _, _, _, g, rfl, rfl, HF⟩
  ·
   refine AnyOrder.wpOp_go rfl (by rfl) ?_
   go_wp2_with fail
   exact ⟨_, _, _, _, _, _, _, _, _, _, _, _, _, V.heap.size, rfl, rfl, ⟨HF.out.laid⟩⟩
  ·
   refine AnyOrder.wpOp_go rfl (by rfl) ?_
   go_wp2_with fail
   refine (orI_call _ _ _ V (HF.out.pair rfl)).mono ?_
   rintro e V' ⟨rfl, hb⟩
   exact hK _ _ ⟨_, _, _, _, _, _, _, _, _, _, _, _, _, g, rfl, rfl, ⟨HF.out.more hb⟩⟩
 case last =>
  rintro L ac V ⟨l0, l1, l2, l3, l4, l5, l6, l7, l8, l9, l10, l11, l12, g, rfl, rfl, HF⟩ hr
  obtain ⟨rfl, rfl, rfl, rfl, rfl, rfl, rfl, rfl, rfl, rfl, rfl, rfl, rfl, -⟩ := AnyOrder.alls rfl (by kernel_rfl) hr
  clear hr
  simp only [sel_true, selv_true]
  go_wp2
  go_ret
  exact ⟨by rw [orI_dot]; rfl, ((Gr.alloc w _).trans (Gr.alloc _ _)).trans HF.out.gr⟩
def nodeLtInv (W0 : World) (A B : Nat) (a b : Node) (L : Array Bool) (ac : Act) (V : World) : Prop := ∃ (l0 l1 l2 l3 l4 l5 l6 l7 l8 l9 l10 l11 l12 l13 : Bool) (g : Nat), L = #[l0, l1, l2, l3, l4, l5, l6, l7, l8, l9, l10, l11, l12, l13] ∧ ac = { tmps := #[vNode a, vNode b, .pointer (some ⟨A, 0, none⟩), .pointer (some ⟨B, 0, none⟩), selv l13 (.bool (decide (orI (cmpI b.f2 a.f2) (dotCmp b.f0 a.f0) < 0))) (.bool false), sel l0 (.pointer (some ⟨B, 4, none⟩)), sel l1 (.int .i64 b.f2), sel l2 (.pointer (some ⟨A, 4, none⟩)), sel l3 (.int .i64 a.f2), sel l4 (.int .i64 (cmpI b.f2 a.f2)), sel l5 (.pointer (some ⟨B, 0, none⟩)), sel l6 (vDot b.f0), sel l7 (.pointer (some ⟨A, 0, none⟩)), sel l8 (vDot a.f0), sel l9 (.int .i64 (dotCmp b.f0 a.f0)), sel l10 (.slice (some ⟨g, 0, none⟩) 2 2), sel l11 (.int .i64 (orI (cmpI b.f2 a.f2) (dotCmp b.f0 a.f0))), sel l12 (.bool (decide (orI (cmpI b.f2 a.f2) (dotCmp b.f0 a.f0) < 0)))], defers := [] } ∧ za0 (Two W0 A B (.cells #[.int .i64 a.f0.f0, .int .i64 a.f0.f1, .int .i64 a.f1.f0, .int .i64 a.f1.f1, .int .i64 a.f2, .int .i32 a.f3] 42 (0, 0)) (.cells #[.int .i64 b.f0.f0, .int .i64 b.f0.f1, .int .i64 b.f1.f0, .int .i64 b.f1.f1, .int .i64 b.f2, .int .i32 b.f3] 42 (0, 0)) (cmpI b.f2 a.f2) (dotCmp b.f0 a.f0) l10 g V)
theorem orI_node (a b : Node) : decide (orI (cmpI b.f2 a.f2) (dotCmp b.f0 a.f0) < 0) = nodeLt a b := by
 unfold orI cmpI nodeLt dotCmp
 rcases Int.lt_trichotomy a.f2 b.f2 with h | h | h
 ·
  have h' : ¬ b.f2 < a.f2 := by omega
  have h2 : ¬ a.f2 = b.f2 := by omega
  simp [h, h', h2]
 ·
  have h' : ¬ b.f2 < a.f2 := by omega
  have h3 : ¬ a.f2 < b.f2 := by omega
  rw [if_neg h', if_neg h3, if_pos rfl, if_pos h]
  cases h4 : dotLt b.f0 a.f0
  ·
   cases dotLt a.f0 b.f0 <;> simp
  ·
   simp
 ·
  have h2 : ¬ a.f2 = b.f2 := by omega
  simp [h, h2]
set_option maxHeartbeats 1000000 in
set_option maxRecDepth 100000 in
theorem nodeLt_call (a b : Node) (w : World) : Calls Tryz.prog 106 #[vNode a, vNode b] w fun e w' => e = .returned (.bool (nodeLt a b)) ∧ Gr w w' := by
 have hB : ((w.alloc (.cells #[.int .i64 a.f0.f0, .int .i64 a.f0.f1, .int .i64 a.f1.f0, .int .i64 a.f1.f1, .int .i64 a.f2, .int .i32 a.f3] 42 (0, 0))).alloc (.cells #[.int .i64 b.f0.f0, .int .i64 b.f0.f1, .int .i64 b.f1.f0, .int .i64 b.f1.f1, .int .i64 b.f2, .int .i32 b.f3] 42 (0, 0))).heap[w.heap.size + 1]? = some (.cells #[.int .i64 b.f0.f0, .int .i64 b.f0.f1, .int .i64 b.f1.f0, .int .i64 b.f1.f1, .int .i64 b.f2, .int .i32 b.f3] 42 (0, 0)) := by have := zaj (w.alloc (.cells #[.int .i64 a.f0.f0, .int .i64 a.f0.f1, .int .i64 a.f1.f0, .int .i64 a.f1.f1, .int .i64 a.f2, .int .i32 a.f3] 42 (0, 0))) (.cells #[.int .i64 b.f0.f0, .int .i64 b.f0.f1, .int .i64 b.f1.f0, .int .i64 b.f1.f1, .int .i64 b.f2, .int .i32 b.f3] 42 (0, 0)); rwa [World.size_alloc] at this
 have HB := za0.mk hB
 clear hB
 go_enter Tryz.func106, Tryz.ntmps106
 go_wp2_with fail
 have hB := HB.out
 refine AnyOrder.wp_region (by kernel_rfl) (nodeLtInv ((w.alloc (.cells #[.int .i64 a.f0.f0, .int .i64 a.f0.f1, .int .i64 a.f1.f0, .int .i64 a.f1.f1, .int .i64 a.f2, .int .i32 a.f3] 42 (0, 0))).alloc (.cells #[.int .i64 b.f0.f0, .int .i64 b.f0.f1, .int .i64 b.f1.f0, .int .i64 b.f1.f1, .int .i64 b.f2, .int .i32 b.f3] 42 (0, 0))) w.heap.size (w.heap.size + 1) a b) ?start ?step ?last
 case start => exact ⟨false, false, false, false, false, false, false, false, false, false, false, false, false, false, 0, rfl, rfl, ⟨⟨Gr.drew _, za6 (zaj _ _) _, hB, fun h => by cases h⟩⟩⟩
 case step =>
  rintro L ac V i ⟨l0, l1, l2, l3, l4, l5, l6, l7, l8, l9, l10, l11, l12, l13, g, rfl, rfl, HF⟩ hi K hK
  rcases AnyOrder.up hi [0, 2, 5, 7, 12, 13, 1, 3, 4, 6, 8, 9, 10, 11] rfl with rfl | rfl | rfl | rfl | rfl | rfl | rfl | rfl | rfl | rfl | rfl | rfl | rfl | rfl
  all_goals
   replace hi := AnyOrder.first hi rfl
   repeat (obtain ⟨ha, hi⟩ := hi; first | obtain rfl := ha | clear ha)
   clear hi
   try simp only [sel_true, selv_true] at hK ⊢
  iterate 6
   ·
    refine AnyOrder.wpOp_go rfl (by rfl) ?_
    go_wp2_with fail
    exact ⟨_, _, _, _, _, _, _, _, _, _, _, _, _, _, g, rfl, rfl, HF⟩
  ·
   have c4 : V.cell? ⟨w.heap.size + 1, 4, none⟩ = _ := (za4 (HF.out.gr.blk HF.out.b) 4).trans rfl
   refine AnyOrder.wpOp_go rfl (by rfl) ?_
   go_wp2_with fail
   exact ⟨_, _, _, _, _, _, _, _, _, _, _, _, _, _, g, rfl, rfl, HF⟩
  ·
   have c4 : V.cell? ⟨w.heap.size, 4, none⟩ = _ := (za4 (HF.out.gr.blk HF.out.a) 4).trans rfl
   refine AnyOrder.wpOp_go rfl (by rfl) ?_
   go_wp2_with fail
   exact ⟨_, _, _, _, _, _, _, _, _, _, _, _, _, _, g, rfl, rfl, HF⟩
  ·
   refine AnyOrder.wpOp_go rfl (by rfl) ?_
   go_wp2_with fail
   refine (cmpI_call _ _ V).mono ?_
   rintro e V' ⟨rfl, hb⟩
   exact hK _ _ ⟨_, _, _, _, _, _, _, _, _, _, _, _, _, _, g, rfl, rfl, ⟨HF.out.more hb⟩⟩
  ·
   have c0 : V.cell? ⟨w.heap.size + 1, 0, none⟩ = _ := (za4 (HF.out.gr.blk HF.out.b) 0).trans rfl
   have c1 : V.cell? ⟨w.heap.size + 1, 1, none⟩ = _ := (za4 (HF.out.gr.blk HF.out.b) 1).trans rfl
   refine AnyOrder.wpOp_go rfl (by rfl) ?_
   go_wp2_with fail
   exact ⟨_, _, _, _, _, _, _, _, _, _, _, _, _, _, g, rfl, rfl, HF⟩
  ·
   have c0 : V.cell? ⟨w.heap.size, 0, none⟩ = _ := (za4 (HF.out.gr.blk HF.out.a) 0).trans rfl
   have c1 : V.cell? ⟨w.heap.size, 1, none⟩ = _ := (za4 (HF.out.gr.blk HF.out.a) 1).trans rfl
   refine AnyOrder.wpOp_go rfl (by rfl) ?_
   go_wp2_with fail
   exact ⟨_, _, _, _, _, _, _, _, _, _, _, _, _, _, g, rfl, rfl, HF⟩
  ·
   refine AnyOrder.wpOp_go rfl (by rfl) ?_
   go_wp2_with fail
   refine (dotCmp_call b.f0 a.f0 V).mono ?_
   rintro e V' ⟨rfl, hb⟩
   exact hK _ _ ⟨_, _, _, _, _, _, _, _, _, _, _, _, _, _, g, rfl, rfl, ⟨HF.out.more hb⟩⟩
  ·
   refine AnyOrder.wpOp_go rfl (by rfl) ?_
   go_wp2_with fail
   exact ⟨_, _, _, _, _, _, _, _, _, _, _, _, _, _, V.heap.size, rfl, rfl, ⟨HF.out.laid⟩⟩
  ·
   refine AnyOrder.wpOp_go rfl (by rfl) ?_
   go_wp2_with fail
   refine (orI_call _ _ _ V (HF.out.pair rfl)).mono ?_
   rintro e V' ⟨rfl, hb⟩
   exact hK _ _ ⟨_, _, _, _, _, _, _, _, _, _, _, _, _, _, g, rfl, rfl, ⟨HF.out.more hb⟩⟩
 case last =>
  rintro L ac V ⟨l0, l1, l2, l3, l4, l5, l6, l7, l8, l9, l10, l11, l12, l13, g, rfl, rfl, HF⟩ hr
  obtain ⟨rfl, rfl, rfl, rfl, rfl, rfl, rfl, rfl, rfl, rfl, rfl, rfl, rfl, rfl, -⟩ := AnyOrder.alls rfl (by kernel_rfl) hr
  clear hr
  simp only [sel_true, selv_true]
  go_wp2
  go_ret
  exact ⟨by rw [orI_node]; rfl, ((Gr.alloc w _).trans (Gr.alloc _ _)).trans HF.out.gr⟩
end
section
def firstI (a b : Node) : Int := if nodeLt a b = true then -1 else if nodeLt b a = true then 1 else 0
set_option maxHeartbeats 1000000 in
set_option maxRecDepth 100000 in
theorem first_call (a b : Node) (w : World) : Calls Tryz.prog 94 #[vNode a, vNode b] w fun e w' => e = .returned (.int .i64 (firstI a b)) ∧ Gr w w' := by
 have hA : ((w.alloc (.cells #[.int .i64 a.f0.f0, .int .i64 a.f0.f1, .int .i64 a.f1.f0, .int .i64 a.f1.f1, .int .i64 a.f2, .int .i32 a.f3] 42 (0, 0))).alloc (.cells #[.int .i64 b.f0.f0, .int .i64 b.f0.f1, .int .i64 b.f1.f0, .int .i64 b.f1.f1, .int .i64 b.f2, .int .i32 b.f3] 42 (0, 0))).heap[w.heap.size]? = some (.cells #[.int .i64 a.f0.f0, .int .i64 a.f0.f1, .int .i64 a.f1.f0, .int .i64 a.f1.f1, .int .i64 a.f2, .int .i32 a.f3] 42 (0, 0)) := za6 (zaj _ _) _
 have hB : ((w.alloc (.cells #[.int .i64 a.f0.f0, .int .i64 a.f0.f1, .int .i64 a.f1.f0, .int .i64 a.f1.f1, .int .i64 a.f2, .int .i32 a.f3] 42 (0, 0))).alloc (.cells #[.int .i64 b.f0.f0, .int .i64 b.f0.f1, .int .i64 b.f1.f0, .int .i64 b.f1.f1, .int .i64 b.f2, .int .i32 b.f3] 42 (0, 0))).heap[w.heap.size + 1]? = some (.cells #[.int .i64 b.f0.f0, .int .i64 b.f0.f1, .int .i64 b.f1.f0, .int .i64 b.f1.f1, .int .i64 b.f2, .int .i32 b.f3] 42 (0, 0)) := by have := zaj (w.alloc (.cells #[.int .i64 a.f0.f0, .int .i64 a.f0.f1, .int .i64 a.f1.f0, .int .i64 a.f1.f1, .int .i64 a.f2, .int .i32 a.f3] 42 (0, 0))) (.cells #[.int .i64 b.f0.f0, .int .i64 b.f0.f1, .int .i64 b.f1.f0, .int .i64 b.f1.f1, .int .i64 b.f2, .int .i32 b.f3] 42 (0, 0)); rwa [World.size_alloc] at this
 have HA := za0.mk hA
 have HB := za0.mk hB
 have HG := za0.mk ((Gr.alloc w (.cells #[.int .i64 a.f0.f0, .int .i64 a.f0.f1, .int .i64 a.f1.f0, .int .i64 a.f1.f1, .int .i64 a.f2, .int .i32 a.f3] 42 (0, 0))).trans (Gr.alloc _ (.cells #[.int .i64 b.f0.f0, .int .i64 b.f0.f1, .int .i64 b.f1.f0, .int .i64 b.f1.f1, .int .i64 b.f2, .int .i32 b.f3] 42 (0, 0))))
 clear hA hB
 obtain ⟨r, HR⟩ : ∃ r, za0 (firstI a b = r) := ⟨_, ⟨rfl⟩⟩
 rw [HR.out]
 go_enter Tryz.func94, Tryz.ntmps94
 go_wp2_with fail
 generalize (w.alloc (.cells #[.int .i64 a.f0.f0, .int .i64 a.f0.f1, .int .i64 a.f1.f0, .int .i64 a.f1.f1, .int .i64 a.f2, .int .i32 a.f3] 42 (0, 0))).alloc (.cells #[.int .i64 b.f0.f0, .int .i64 b.f0.f1, .int .i64 b.f1.f0, .int .i64 b.f1.f1, .int .i64 b.f2, .int .i32 b.f3] 42 (0, 0)) = W0 at HA HB HG ⊢
 refine (nodeLt_call a b W0).mono ?_
 rintro e W1 ⟨rfl, hb⟩
 have HA := za0.mk (hb.blk HA.out)
 have HB := za0.mk (hb.blk HB.out)
 have HG := za0.mk (HG.out.trans hb)
 clear hb
 cases h1 : nodeLt a b with
 | true =>
  have H1 := za0.mk h1
  clear h1
  go_wp2_with fail
  go_ret
  exact ⟨by rw [← HR.out, firstI, if_pos H1.out]; rfl, HG.out⟩
 | false =>
  have H1 := za0.mk h1
  clear h1
  have cA0 : W1.cell? ⟨w.heap.size, 0, none⟩ = _ := (za4 HA.out 0).trans rfl
  have cA1 : W1.cell? ⟨w.heap.size, 1, none⟩ = _ := (za4 HA.out 1).trans rfl
  have cA2 : W1.cell? ⟨w.heap.size, 2, none⟩ = _ := (za4 HA.out 2).trans rfl
  have cA3 : W1.cell? ⟨w.heap.size, 3, none⟩ = _ := (za4 HA.out 3).trans rfl
  have cA4 : W1.cell? ⟨w.heap.size, 4, none⟩ = _ := (za4 HA.out 4).trans rfl
  have cA5 : W1.cell? ⟨w.heap.size, 5, none⟩ = _ := (za4 HA.out 5).trans rfl
  have cB0 : W1.cell? ⟨w.heap.size + 1, 0, none⟩ = _ := (za4 HB.out 0).trans rfl
  have cB1 : W1.cell? ⟨w.heap.size + 1, 1, none⟩ = _ := (za4 HB.out 1).trans rfl
  have cB2 : W1.cell? ⟨w.heap.size + 1, 2, none⟩ = _ := (za4 HB.out 2).trans rfl
  have cB3 : W1.cell? ⟨w.heap.size + 1, 3, none⟩ = _ := (za4 HB.out 3).trans rfl
  have cB4 : W1.cell? ⟨w.heap.size + 1, 4, none⟩ = _ := (za4 HB.out 4).trans rfl
  have cB5 : W1.cell? ⟨w.heap.size + 1, 5, none⟩ = _ := (za4 HB.out 5).trans rfl
  go_wp2_with fail
  refine (nodeLt_call b a W1).mono ?_
  rintro e W2 ⟨rfl, hb⟩
  have HG := za0.mk (HG.out.trans hb)
  clear hb
  cases h2 : nodeLt b a with
  | true =>
   have H2 := za0.mk h2
   clear h2
   go_wp2_with fail
   go_ret
   exact ⟨by rw [← HR.out, firstI, if_neg (by rw [H1.out]; decide), if_pos H2.out]; rfl, HG.out⟩
  | false =>
   have H2 := za0.mk h2
   clear h2
   go_wp2_with fail
   go_ret
   exact ⟨by rw [← HR.out, firstI, if_neg (by rw [H1.out]; decide), if_neg (by rw [H2.out]; decide)]; rfl, HG.out⟩
abbrev cmpV : Value := .func (.func 45) #[] #[]
abbrev vEnt (k : Dot) (v : Value) : Value := .agg #[.int .i64 k.f0, .int .i64 k.f1, v]
structure Find1 (W0 : World) (bm mp A B : Nat) (k : Dot) (v : Value) (d : Dot) (sl : Value) (V : World) : Prop where
 gr : Gr W0 V
 box : W0.heap[bm]? = some (.cells #[.pointer (some ⟨mp, 0, none⟩)] 114 (0, 0))
 map : W0.heap[mp]? = some (.cells #[cmpV, sl] 159 (0, 0))
 ent : W0.heap[A]? = some (.cells #[.int .i64 k.f0, .int .i64 k.f1, v] 162 (0, 0))
 key : W0.heap[B]? = some (.cells #[.int .i64 d.f0, .int .i64 d.f1] 39 (0, 0))
def find1Inv (W0 : World) (bm mp A B : Nat) (k : Dot) (v : Value) (d : Dot) (sl : Value) (L : Array Bool) (ac : Act) (V : World) : Prop := ∃ (l0 l1 l2 l3 l4 l5 l6 l7 l8 : Bool), L = #[l0, l1, l2, l3, l4, l5, l6, l7, l8] ∧ ac = { tmps := #[vEnt k v, vDot d, .pointer (some ⟨bm, 0, none⟩), .pointer (some ⟨A, 0, none⟩), .pointer (some ⟨B, 0, none⟩), selv l8 (.int .i64 (dotCmp k d)) (.int .i64 0), sel l0 (.pointer (some ⟨mp, 0, none⟩)), sel l1 (.pointer (some ⟨mp, 0, none⟩)), sel l2 (.pointer (some ⟨mp, 0, none⟩)), sel l3 (cmpV), sel l4 (.pointer (some ⟨A, 0, none⟩)), sel l5 (vDot k), sel l6 (vDot d), sel l7 (.int .i64 (dotCmp k d))], defers := [] } ∧ za0 (Find1 W0 bm mp A B k v d sl V)
set_option maxHeartbeats 1000000 in
set_option maxRecDepth 100000 in
theorem find1_call (k : Dot) (v : Value) (hv : v.oneCell' = true) (d : Dot) (bm mp : Nat) (sl : Value) (w : World) (hbm : w.heap[bm]? = some (.cells #[.pointer (some ⟨mp, 0, none⟩)] 114 (0, 0))) (hmp : w.heap[mp]? = some (.cells #[cmpV, sl] 159 (0, 0))) :
  Calls Tryz.prog 109 #[vEnt k v, vDot d, .pointer (some ⟨bm, 0, none⟩)] w fun e w' => e = .returned (.int .i64 (dotCmp k d)) ∧ Gr w w' := by
 replace hbm := za6 (za6 hbm (.cells #[.int .i64 k.f0, .int .i64 k.f1, v] 162 (0, 0))) (.cells #[.int .i64 d.f0, .int .i64 d.f1] 39 (0, 0))
 replace hmp := za6 (za6 hmp (.cells #[.int .i64 k.f0, .int .i64 k.f1, v] 162 (0, 0))) (.cells #[.int .i64 d.f0, .int .i64 d.f1] 39 (0, 0))
 have hA : ((w.alloc (.cells #[.int .i64 k.f0, .int .i64 k.f1, v] 162 (0, 0))).alloc (.cells #[.int .i64 d.f0, .int .i64 d.f1] 39 (0, 0))).heap[w.heap.size]? = some (.cells #[.int .i64 k.f0, .int .i64 k.f1, v] 162 (0, 0)) := za6 (zaj _ _) _
 have hB : ((w.alloc (.cells #[.int .i64 k.f0, .int .i64 k.f1, v] 162 (0, 0))).alloc (.cells #[.int .i64 d.f0, .int .i64 d.f1] 39 (0, 0))).heap[w.heap.size + 1]? = some (.cells #[.int .i64 d.f0, .int .i64 d.f1] 39 (0, 0)) := by have := zaj (w.alloc (.cells #[.int .i64 k.f0, .int .i64 k.f1, v] 162 (0, 0))) (.cells #[.int .i64 d.f0, .int .i64 d.f1] 39 (0, 0)); rwa [World.size_alloc] at this
 have H1 := za0.mk hbm
 have H2 := za0.mk hmp
 have H3 := za0.mk hA
 have H4 := za0.mk hB
 clear hbm hmp hA hB
 go_enter Tryz.func109, Tryz.ntmps109
 go_wp2_with fail
 have hbm := H1.out
 have hmp := H2.out
 have hA := H3.out
 have hB := H4.out
 refine AnyOrder.wp_region (by kernel_rfl) (find1Inv ((w.alloc (.cells #[.int .i64 k.f0, .int .i64 k.f1, v] 162 (0, 0))).alloc (.cells #[.int .i64 d.f0, .int .i64 d.f1] 39 (0, 0))) bm mp w.heap.size (w.heap.size + 1) k v d sl) ?start ?step ?last
 case start => exact ⟨false, false, false, false, false, false, false, false, false, rfl, rfl, ⟨⟨Gr.drew _, hbm, hmp, hA, hB⟩⟩⟩
 case step =>
  rintro L ac V i ⟨l0, l1, l2, l3, l4, l5, l6, l7, l8, rfl, rfl, HF⟩ hi K hK
  rcases AnyOrder.up hi [0, 1, 2, 4, 8, 3, 5, 6, 7] rfl with rfl | rfl | rfl | rfl | rfl | rfl | rfl | rfl | rfl
  all_goals
   replace hi := AnyOrder.first hi rfl
   repeat (obtain ⟨ha, hi⟩ := hi; first | obtain rfl := ha | clear ha)
   clear hi
   try simp only [sel_true, selv_true] at hK ⊢
  ·
   have cb0 : V.cell? ⟨bm, 0, none⟩ = _ := (za4 (HF.out.gr.blk HF.out.box) 0).trans rfl
   refine AnyOrder.wpOp_go rfl (by rfl) ?_
   go_wp2_with fail
   exact ⟨_, _, _, _, _, _, _, _, _, rfl, rfl, HF⟩
  iterate 4
   ·
    refine AnyOrder.wpOp_go rfl (by rfl) ?_
    go_wp2_with fail
    exact ⟨_, _, _, _, _, _, _, _, _, rfl, rfl, HF⟩
  ·
   have cm0 : V.cell? ⟨mp, 0, none⟩ = _ := (za4 (HF.out.gr.blk HF.out.map) 0).trans rfl
   refine AnyOrder.wpOp_go rfl (by rfl) ?_
   go_wp2_with fail
   exact ⟨_, _, _, _, _, _, _, _, _, rfl, rfl, HF⟩
  ·
   have ce0 : V.cell? ⟨w.heap.size, 0, none⟩ = _ := (za4 (HF.out.gr.blk HF.out.ent) 0).trans rfl
   have ce1 : V.cell? ⟨w.heap.size, 1, none⟩ = _ := (za4 (HF.out.gr.blk HF.out.ent) 1).trans rfl
   refine AnyOrder.wpOp_go rfl (by rfl) ?_
   go_wp2_with fail
   exact ⟨_, _, _, _, _, _, _, _, _, rfl, rfl, HF⟩
  ·
   have ck0 : V.cell? ⟨w.heap.size + 1, 0, none⟩ = _ := (za4 (HF.out.gr.blk HF.out.key) 0).trans rfl
   have ck1 : V.cell? ⟨w.heap.size + 1, 1, none⟩ = _ := (za4 (HF.out.gr.blk HF.out.key) 1).trans rfl
   refine AnyOrder.wpOp_go rfl (by rfl) ?_
   go_wp2_with fail
   exact ⟨_, _, _, _, _, _, _, _, _, rfl, rfl, HF⟩
  ·
   refine AnyOrder.wpOp_go rfl (by rfl) ?_
   go_wp2_with fail
   refine (dotCmp_call k d V).mono ?_
   rintro e V' ⟨rfl, hb⟩
   exact hK _ _ ⟨_, _, _, _, _, _, _, _, _, rfl, rfl, ⟨⟨HF.out.gr.trans hb, HF.out.box, HF.out.map, HF.out.ent, HF.out.key⟩⟩⟩
 case last =>
  rintro L ac V ⟨l0, l1, l2, l3, l4, l5, l6, l7, l8, rfl, rfl, HF⟩ hr
  obtain ⟨rfl, rfl, rfl, rfl, rfl, rfl, rfl, rfl, rfl, -⟩ := AnyOrder.alls rfl (by kernel_rfl) hr
  clear hr
  simp only [sel_true, selv_true]
  go_wp2
  go_ret
  exact ⟨rfl, ((Gr.alloc w _).trans (Gr.alloc _ _)).trans HF.out.gr⟩
structure Ents (W : World) (A : Option Addr) (n : Nat) (ks : List Dot) (vs : List Value) : Prop where
 kl : ks.length = n
 vl : vs.length = n
 small : n ≤ 1000000
 one : ∀ v ∈ vs, v.oneCell' = true
 row : ∀ i k v, ks[i]? = some k → vs[i]? = some v → ∃ eb, A = some ⟨eb, 0, none⟩ ∧ W.cell? ⟨eb, i * 3, none⟩ = some (.int .i64 k.f0) ∧ W.cell? ⟨eb, i * 3 + 1, none⟩ = some (.int .i64 k.f1) ∧ W.cell? ⟨eb, i * 3 + 2, none⟩ = some v
theorem Ents.below {W V : World} {A : Option Addr} {n : Nat} {ks : List Dot} {vs : List Value} (h : Ents W A n ks vs) (hb : Below W.heap.size W V) : Ents V A n ks vs :=
 ⟨h.kl, h.vl, h.small, h.one, fun i k v hk hv => by
  obtain ⟨eb, e, h0, h1, h2⟩ := h.row i k v hk hv
  exact ⟨eb, e, zal hb h0, zal hb h1, zal hb h2⟩⟩
theorem Ents.get {W : World} {A : Option Addr} {n : Nat} {ks : List Dot} {vs : List Value} (h : Ents W A n ks vs) {i : Nat} (hi : i < n) : ∃ k v eb, ks[i]? = some k ∧ vs[i]? = some v ∧ v.oneCell' = true ∧ A = some ⟨eb, 0, none⟩ ∧ W.cell? ⟨eb, i * 3, none⟩ = some (.int .i64 k.f0) ∧ W.cell? ⟨eb, i * 3 + 1, none⟩ = some (.int .i64 k.f1) ∧ W.cell? ⟨eb, i * 3 + 2, none⟩ = some v := by
 have h1 : i < ks.length := by rw [h.kl]; exact hi
 have h2 : i < vs.length := by rw [h.vl]; exact hi
 obtain ⟨eb, e, c0, c1, c2⟩ := h.row i _ _ (List.getElem?_eq_getElem h1) (List.getElem?_eq_getElem h2)
 exact ⟨_, _, eb, List.getElem?_eq_getElem h1, List.getElem?_eq_getElem h2, h.one _ (List.getElem_mem h2), e, c0, c1, c2⟩
/-- How many keys come before a dot, and whether it is there. -/
def posK (ks : List Dot) (d : Dot) : Nat := (ks.takeWhile fun k => dotLt k d).length
def hasK (ks : List Dot) (d : Dot) : Bool := decide (ks[posK ks d]? = some d)
theorem posK_le (ks : List Dot) (d : Dot) : posK ks d ≤ ks.length := (List.takeWhile_sublist _).length_le
theorem incB_tail {k : Dot} {ks : List Dot} (h : incB (k :: ks) = true) : incB ks = true ∧ ∀ x ∈ ks, dotLt k x = true := by
 induction ks generalizing k with
 | nil => exact ⟨rfl, fun x hx => by cases hx⟩
 | cons y ks ih =>
  simp only [incB, Bool.and_eq_true] at h
  refine ⟨h.2, fun x hx => ?_⟩
  rcases List.mem_cons.1 hx with rfl | hx
  ·
   exact h.1
  ·
   exact dotLt_trans h.1 ((ih h.2).2 x hx)
theorem posK_iff {ks : List Dot} (h : incB ks = true) (d : Dot) : ∀ {i : Nat} {k : Dot}, ks[i]? = some k → (dotLt k d = true ↔ i < posK ks d) := by
 induction ks with
 | nil => intro i k hk; simp at hk
 | cons y ks ih =>
  intro i k hk
  obtain ⟨h1, h2⟩ := incB_tail h
  unfold posK
  rw [List.takeWhile_cons]
  by_cases hy : dotLt y d = true
  ·
   rw [if_pos hy]
   cases i with
   | zero => simp at hk; subst hk; simp [hy]
   | succ i =>
    have := ih h1 (i := i) (k := k) (by simpa using hk)
    rw [this]; simp [posK]
  ·
   rw [if_neg hy]
   cases i with
   | zero => simp at hk; subst hk; simp [hy]
   | succ i =>
    have hm : k ∈ ks := List.mem_of_getElem? (by simpa using hk)
    have : ¬ dotLt k d = true := fun e => hy (dotLt_trans (h2 k hm) e)
    simp [this]
theorem dotCmp_lt (a b : Dot) : decide (dotCmp a b < 0) = dotLt a b := by
 unfold dotCmp
 cases dotLt a b <;> simp
 cases dotLt b a <;> simp
theorem dotCmp_eq (a b : Dot) : (dotCmp a b == 0) = decide (a = b) := by
 unfold dotCmp
 cases h : dotLt a b with
 | true =>
  have : a ≠ b := fun e => by subst e; rw [dotLt_irrefl] at h; cases h
  simp [this]
 | false =>
  cases k : dotLt b a with
  | true =>
   have : a ≠ b := fun e => by subst e; rw [dotLt_irrefl] at k; cases k
   simp [this]
  | false => simp [dotLt_total h k]
structure Bs (w : World) (d : Dot) (V : World) : Prop where
 below : Below w.heap.size w V
 box : V.heap[w.heap.size]? = some (.cells #[.int .i64 d.f0, .int .i64 d.f1] 39 (0, 0))
theorem Bs.more {w V V' : World} {d : Dot} (h : Bs w d V) (hb : Below V.heap.size V V') : Bs w d V' := ⟨za8 h.below hb, zab h.box hb⟩
theorem Bs.drew {w V : World} {d : Dot} (h : Bs w d V) : Bs w d V.drew := h.more (Gr.drew V).below
def bsrInv (w : World) (B bm eb n c : Nat) (d : Dot) (i j h : Nat) (k : Dot) (v : Value) (z12 z13 z14 z15 z16 z17 z18 z19 z20 z21 z22 z23 u24 u25 u26 u27 u28 u29 u30 u31 u32 u33 u34 : Value) (L : Array Bool) (ac : Act) (V : World) : Prop := ∃ (l0 l1 l2 l3 l4 l5 l6 l7 : Bool), L = #[l0, l1, l2, l3, l4, l5, l6, l7] ∧ ac = { tmps := #[.slice (some ⟨eb, 0, none⟩) n c, vDot d, .func (.func 109) #[] #[.pointer (some ⟨bm, 0, none⟩)], undef, .pointer (some ⟨B, 0, none⟩), undef, .int .i64 0, .bool false, .int .i64 n, .int .i64 i, .int .i64 j, .int .i64 h, z12, z13, z14, z15, z16, z17, z18, z19, z20, z21, z22, z23, selv l0 (.func (.func 109) #[] #[.pointer (some ⟨bm, 0, none⟩)]) (u24), selv l1 (.slice (some ⟨eb, 0, none⟩) n c) (u25), selv l2 (.int .i64 h) (u26), selv l3 (.pointer (some ⟨eb, h * 3, none⟩)) (u27), selv l4 (vEnt k v) (u28), selv l5 (vDot d) (u29), selv l6 (.int .i64 (dotCmp k d)) (u30), selv l7 (.bool (decide (dotCmp k d < 0))) (u31), u32, u33, u34, undef, undef, undef, undef, undef, undef, undef, undef, undef, undef, undef, undef, undef, undef], defers := [] } ∧ za0 (Bs w d V)
def bstInv (w : World) (B bm eb n c : Nat) (d : Dot) (q : Nat) (k : Dot) (v : Value) (y11 y12 y13 y14 y15 y16 y17 y18 y19 y20 y21 y22 y23 y24 y25 y26 y27 y28 y29 y30 y31 y32 y33 y34 : Value) (L : Array Bool) (ac : Act) (V : World) : Prop := ∃ (l0 l1 l2 l3 l4 l5 l6 l7 l8 l9 l10 l11 l12 l13 l14 l15 : Bool), L = #[l0, l1, l2, l3, l4, l5, l6, l7, l8, l9, l10, l11, l12, l13, l14, l15] ∧ ac = { tmps := #[.slice (some ⟨eb, 0, none⟩) n c, vDot d, .func (.func 109) #[] #[.pointer (some ⟨bm, 0, none⟩)], undef, .pointer (some ⟨B, 0, none⟩), undef, selv l14 (.int .i64 q) (.int .i64 0), selv l15 (.bool (dotCmp k d == 0)) (.bool false), .int .i64 n, .int .i64 q, .int .i64 q, y11, y12, y13, y14, y15, y16, y17, y18, y19, y20, y21, y22, y23, y24, y25, y26, y27, y28, y29, y30, y31, y32, y33, y34, sel l0 (.int .i64 q), sel l1 (.int .i64 q), sel l2 (.int .i64 n), sel l3 (.bool true), sel l4 (.bool true), sel l5 (.func (.func 109) #[] #[.pointer (some ⟨bm, 0, none⟩)]), sel l6 (.slice (some ⟨eb, 0, none⟩) n c), sel l7 (.int .i64 q), sel l8 (.pointer (some ⟨eb, q * 3, none⟩)), sel l9 (vEnt k v), sel l10 (vDot d), sel l11 (.int .i64 (dotCmp k d)), sel l12 (.bool (dotCmp k d == 0)), sel l13 (.bool (dotCmp k d == 0))], defers := [] } ∧ za0 (Bs w d V)
def bsfInv (w : World) (A : Option Addr) (B bm n c : Nat) (d : Dot) (y11 y12 y13 y14 y15 y16 y17 y18 y19 y20 y21 y22 y23 y24 y25 y26 y27 y28 y29 y30 y31 y32 y33 y34 : Value) (L : Array Bool) (ac : Act) (V : World) : Prop := ∃ (l0 l1 l2 l3 l4 l5 l6 l7 l8 l9 l10 l11 l12 l13 l14 l15 : Bool), L = #[l0, l1, l2, l3, l4, l5, l6, l7, l8, l9, l10, l11, l12, l13, l14, l15] ∧ ac = { tmps := #[.slice A n c, vDot d, .func (.func 109) #[] #[.pointer (some ⟨bm, 0, none⟩)], undef, .pointer (some ⟨B, 0, none⟩), undef, selv l14 (.int .i64 n) (.int .i64 0), selv l15 (.bool false) (.bool false), .int .i64 n, .int .i64 n, .int .i64 n, y11, y12, y13, y14, y15, y16, y17, y18, y19, y20, y21, y22, y23, y24, y25, y26, y27, y28, y29, y30, y31, y32, y33, y34, sel l0 (.int .i64 n), sel l1 (.int .i64 n), sel l2 (.int .i64 n), sel l3 (.bool false), sel l4 (.bool false), sel l5 (undef), sel l6 (undef), sel l7 (undef), sel l8 (undef), sel l9 (undef), sel l10 (undef), sel l11 (undef), sel l12 (undef), sel l13 (.bool false)], defers := [] } ∧ za0 (Bs w d V)
set_option maxHeartbeats 2000000 in
set_option maxRecDepth 100000 in
theorem bsearch_call (ks : List Dot) (vs : List Value) (A : Option Addr) (n c : Nat) (d : Dot) (bm mp : Nat) (sl : Value) (w : World) (hs : incB ks = true) (he : Ents w A n ks vs) (hbm : w.heap[bm]? = some (.cells #[.pointer (some ⟨mp, 0, none⟩)] 114 (0, 0))) (hmp : w.heap[mp]? = some (.cells #[cmpV, sl] 159 (0, 0))) :
  Calls Tryz.prog 108 #[.slice A n c, vDot d, .func (.func 109) #[] #[.pointer (some ⟨bm, 0, none⟩)]] w fun e w' => e = .returned (.tuple #[.int .i64 (posK ks d), .bool (hasK ks d)]) ∧ Below w.heap.size w w' := by
 have HE := za0.mk he
 have HBM := za0.mk hbm
 have HMP := za0.mk hmp
 have HS := za0.mk hs
 have hn := he.small
 have HQN : za0 (posK ks d ≤ n) := ⟨by rw [← he.kl]; exact posK_le ks d⟩
 clear he hbm hmp hs
 obtain ⟨q, HQ⟩ : ∃ q, za0 (posK ks d = q) := ⟨_, ⟨rfl⟩⟩
 obtain ⟨hf, HHF⟩ : ∃ hf, za0 (hasK ks d = hf) := ⟨_, ⟨rfl⟩⟩
 rw [HQ.out, HHF.out]
 rw [HQ.out] at HQN
 have HB0 : za0 (Bs w d (w.alloc (.cells #[.int .i64 d.f0, .int .i64 d.f1] 39 (0, 0)))) := ⟨(Gr.alloc w _).below, zaj _ _⟩
 go_enter Tryz.func108, Tryz.ntmps108
 go_wp2
 go_loopw [9, 10] (fun i j wr => ∃ i' j' : Nat, i' ≤ q ∧ q ≤ j' ∧ j' ≤ n ∧ i = .int .i64 i' ∧ j = .int .i64 j' ∧ za0 (Bs w d wr)) (fun i j _ => (intOf j - intOf i).toNat)
 case atStart => exact ⟨0, n, Nat.zero_le _, HQN.out, Nat.le_refl _, rfl, rfl, HB0⟩
 case round =>
  obtain ⟨i, j, hi, hj, hjn, rfl, rfl, HB⟩ := hrel
  clear HB0
  by_cases hlt : i < j
  ·
   have hlb : decide ((i : Int) < (j : Int)) = true := decide_eq_true (by omega)
   obtain ⟨h, Hh⟩ : ∃ h : Nat, h = (i + j) / 2 := ⟨_, rfl⟩
   have hm : ((i : Int) + (j : Int)) / 2 = (h : Int) := by omega
   have HH : za0 (h < n) := ⟨by omega⟩
   have HIJ : za0 (i ≤ h ∧ h < j) := ⟨by omega⟩
   clear Hh
   obtain ⟨k, v, eb, hk, hvk, hv1, rfl, c0, c1, c2⟩ := HE.out.get HH.out
   have HC := za0.mk (And.intro c0 (And.intro c1 c2))
   have HV := za0.mk hv1
   have HL : za0 (dotLt k d = true ↔ h < q) := ⟨by rw [← HQ.out]; exact posK_iff HS.out d hk⟩
   clear c0 c1 c2 hk hvk hv1
   go_wp2_with fail
   refine AnyOrder.wp_region (by kernel_rfl) (bsrInv w w.heap.size bm eb n c d i j h k v (.slice (some ⟨eb, 0, none⟩) n c) (.int .i64 n) (.int .i64 n) (.int .i64 i) (.int .i64 j) (.bool true) (.int .i64 i) (.int .i64 j) (.int .i64 ((i : Int) + (j : Int))) (.int .u64 ((i : Int) + (j : Int))) (.int .u64 h) (.int .i64 h) u24 u25 u26 u27 u28 u29 u30 u31 u32 u33 u34) ?start ?step ?last
   case start => exact ⟨false, false, false, false, false, false, false, false, rfl, rfl, ⟨HB.out.drew⟩⟩
   case step =>
    rintro L ac V i ⟨l0, l1, l2, l3, l4, l5, l6, l7, rfl, rfl, HF⟩ hi K hK
    rcases AnyOrder.up hi [0, 1, 2, 7, 3, 4, 5, 6] rfl with rfl | rfl | rfl | rfl | rfl | rfl | rfl | rfl
    all_goals
     replace hi := AnyOrder.first hi rfl
     repeat (obtain ⟨ha, hi⟩ := hi; first | obtain rfl := ha | clear ha)
     clear hi
     try simp only [sel_true, selv_true] at hK ⊢
    iterate 4
     ·
      refine AnyOrder.wpOp_go rfl (by rfl) ?_
      go_wp2_with fail
      exact ⟨_, _, _, _, _, _, _, _, rfl, rfl, HF⟩
    ·
     have hh := HH.out
     refine AnyOrder.wpOp_go rfl (by rfl) ?_
     go_wp2_with fail
     exact ⟨_, _, _, _, _, _, _, _, rfl, rfl, HF⟩
    ·
     obtain ⟨q0, q1, q2⟩ := HC.out
     have e0 : V.cell? ⟨eb, h * 3, none⟩ = _ := zal HF.out.below q0
     have e1 : V.cell? ⟨eb, h * 3 + 1, none⟩ = _ := zal HF.out.below q1
     have e2 : V.cell? ⟨eb, h * 3 + 2, none⟩ = _ := zal HF.out.below q2
     have hv := HV.out
     clear q0 q1 q2
     refine AnyOrder.wpOp_go rfl (by rfl) ?_
     go_wp2_with fail
     exact ⟨_, _, _, _, _, _, _, _, rfl, rfl, HF⟩
    ·
     have d0 : V.cell? ⟨w.heap.size, 0, none⟩ = _ := (za4 HF.out.box 0).trans rfl
     have d1 : V.cell? ⟨w.heap.size, 1, none⟩ = _ := (za4 HF.out.box 1).trans rfl
     refine AnyOrder.wpOp_go rfl (by rfl) ?_
     go_wp2_with fail
     exact ⟨_, _, _, _, _, _, _, _, rfl, rfl, HF⟩
    ·
     refine AnyOrder.wpOp_go rfl (by rfl) ?_
     go_wp2_with fail
     refine (find1_call k v HV.out d bm mp sl V (zab HBM.out HF.out.below) (zab HMP.out HF.out.below)).mono ?_
     rintro e V' ⟨rfl, hb⟩
     exact hK _ _ ⟨_, _, _, _, _, _, _, _, rfl, rfl, ⟨HF.out.more hb.below⟩⟩
   case last =>
    rintro L ac V ⟨l0, l1, l2, l3, l4, l5, l6, l7, rfl, rfl, HF⟩ hr
    obtain ⟨rfl, rfl, rfl, rfl, rfl, rfl, rfl, rfl, -⟩ := AnyOrder.alls rfl (by kernel_rfl) hr
    clear hr
    simp only [sel_true, selv_true]
    clear hm
    rw [dotCmp_lt]
    cases hd : dotLt k d with
    | true =>
     have hw1 : wrap64 ((h : Int) + 1) = ((h + 1 : Nat) : Int) := by unfold wrap64; have := HH.out; omega
     have h2 := HL.out.1 hd
     have HIJ2 := HIJ.out
     clear hd
     go_wp2_with fail
     refine ⟨⟨h + 1, j, by omega, hj, hjn, by (first | rfl | (rw [hw1])), rfl, HF⟩, ?_⟩
     simp [intOf]; omega
    | false =>
     have h2 : ¬ h < q := fun e => by have := HL.out.2 e; rw [hd] at this; cases this
     have HIJ2 := HIJ.out
     clear hd
     go_wp2_with fail
     refine ⟨⟨i, h, hi, by omega, by omega, rfl, rfl, HF⟩, ?_⟩
     simp [intOf]; omega
  ·
   obtain rfl : q = i := by omega
   obtain rfl : q = j := by omega
   have hlb : decide ((q : Int) < (q : Int)) = false := decide_eq_false (by omega)
   by_cases hq : q < n
   ·
    have HH := za0.mk hq
    obtain ⟨k, v, eb, hk, hvk, hv1, rfl, c0, c1, c2⟩ := HE.out.get HH.out
    have HC := za0.mk (And.intro c0 (And.intro c1 c2))
    have HV := za0.mk hv1
    have HR : za0 (hf = (dotCmp k d == 0)) := ⟨by rw [← HHF.out, hasK, HQ.out, hk, dotCmp_eq]; simp⟩
    clear c0 c1 c2 hk hvk hv1
    go_wp2_with fail
    refine AnyOrder.wp_region (by kernel_rfl) (bstInv w w.heap.size bm eb n c d q k v u11 (.slice (some ⟨eb, 0, none⟩) n c) (.int .i64 n) (.int .i64 n) (.int .i64 q) (.int .i64 q) (.bool false) u18 u19 u20 u21 u22 u23 u24 u25 u26 u27 u28 u29 u30 u31 u32 u33 u34) ?start ?step ?last
    case start => exact ⟨false, false, false, false, false, false, false, false, false, false, false, false, false, false, false, false, rfl, rfl, ⟨HB.out.drew⟩⟩
    case step =>
     rintro L ac V i ⟨l0, l1, l2, l3, l4, l5, l6, l7, l8, l9, l10, l11, l12, l13, l14, l15, rfl, rfl, HF⟩ hi K hK
     rcases AnyOrder.up hi [0, 1, 2, 4, 5, 6, 7, 12, 13, 14, 15, 3, 8, 9, 10, 11] rfl with rfl | rfl | rfl | rfl | rfl | rfl | rfl | rfl | rfl | rfl | rfl | rfl | rfl | rfl | rfl | rfl
     all_goals
      replace hi := AnyOrder.first hi rfl
      repeat (obtain ⟨ha, hi⟩ := hi; first | obtain rfl := ha | clear ha)
      clear hi
      try simp only [sel_true, selv_true] at hK ⊢
     iterate 11
      ·
       refine AnyOrder.wpOp_go rfl (by rfl) ?_
       go_wp2_with fail
       exact ⟨_, _, _, _, _, _, _, _, _, _, _, _, _, _, _, _, rfl, rfl, HF⟩
     ·
      have hh : decide ((q : Int) < (n : Int)) = true := decide_eq_true (by have := HH.out; omega)
      refine AnyOrder.wpOp_go rfl (by rfl) ?_
      go_wp2_with fail
      exact ⟨_, _, _, _, _, _, _, _, _, _, _, _, _, _, _, _, rfl, rfl, HF⟩
     ·
      have hh := HH.out
      refine AnyOrder.wpOp_go rfl (by rfl) ?_
      go_wp2_with fail
      exact ⟨_, _, _, _, _, _, _, _, _, _, _, _, _, _, _, _, rfl, rfl, HF⟩
     ·
      obtain ⟨q0, q1, q2⟩ := HC.out
      have e0 : V.cell? ⟨eb, q * 3, none⟩ = _ := zal HF.out.below q0
      have e1 : V.cell? ⟨eb, q * 3 + 1, none⟩ = _ := zal HF.out.below q1
      have e2 : V.cell? ⟨eb, q * 3 + 2, none⟩ = _ := zal HF.out.below q2
      have hv := HV.out
      clear q0 q1 q2
      refine AnyOrder.wpOp_go rfl (by rfl) ?_
      go_wp2_with fail
      exact ⟨_, _, _, _, _, _, _, _, _, _, _, _, _, _, _, _, rfl, rfl, HF⟩
     ·
      have d0 : V.cell? ⟨w.heap.size, 0, none⟩ = _ := (za4 HF.out.box 0).trans rfl
      have d1 : V.cell? ⟨w.heap.size, 1, none⟩ = _ := (za4 HF.out.box 1).trans rfl
      refine AnyOrder.wpOp_go rfl (by rfl) ?_
      go_wp2_with fail
      exact ⟨_, _, _, _, _, _, _, _, _, _, _, _, _, _, _, _, rfl, rfl, HF⟩
     ·
      refine AnyOrder.wpOp_go rfl (by rfl) ?_
      go_wp2_with fail
      refine (find1_call k v HV.out d bm mp sl V (zab HBM.out HF.out.below) (zab HMP.out HF.out.below)).mono ?_
      rintro e V' ⟨rfl, hb⟩
      exact hK _ _ ⟨_, _, _, _, _, _, _, _, _, _, _, _, _, _, _, _, rfl, rfl, ⟨HF.out.more hb.below⟩⟩
    case last =>
     rintro L ac V ⟨l0, l1, l2, l3, l4, l5, l6, l7, l8, l9, l10, l11, l12, l13, l14, l15, rfl, rfl, HF⟩ hr
     obtain ⟨rfl, rfl, rfl, rfl, rfl, rfl, rfl, rfl, rfl, rfl, rfl, rfl, rfl, rfl, rfl, rfl, -⟩ := AnyOrder.alls rfl (by kernel_rfl) hr
     clear hr
     simp only [sel_true, selv_true]
     go_wp2
     refine bodyPost_ret (results_tmp2 rfl _ _ _) rfl ?_
     exact ⟨by rw [HR.out]; rfl, HF.out.below⟩
   ·
    obtain rfl : n = q := by omega
    have HR : za0 (hf = false) := ⟨by rw [← HHF.out, hasK, HQ.out, List.getElem?_eq_none (by rw [HE.out.kl]; exact Nat.le_refl _)]; rfl⟩
    go_wp2_with fail
    refine AnyOrder.wp_region (by kernel_rfl) (bsfInv w A w.heap.size bm n c d u11 (.slice A n c) (.int .i64 n) (.int .i64 n) (.int .i64 n) (.int .i64 n) (.bool false) u18 u19 u20 u21 u22 u23 u24 u25 u26 u27 u28 u29 u30 u31 u32 u33 u34) ?start ?step ?last
    case start => exact ⟨false, false, false, false, false, false, false, false, false, false, false, false, false, false, false, false, rfl, rfl, ⟨HB.out.drew⟩⟩
    case step =>
     rintro L ac V i ⟨l0, l1, l2, l3, l4, l5, l6, l7, l8, l9, l10, l11, l12, l13, l14, l15, rfl, rfl, HF⟩ hi K hK
     rcases AnyOrder.up hi [0, 1, 2, 4, 13, 14, 15, 3, 5, 6, 7, 8, 9, 10, 11, 12] rfl with rfl | rfl | rfl | rfl | rfl | rfl | rfl | rfl | rfl | rfl | rfl | rfl | rfl | rfl | rfl | rfl
     all_goals
      replace hi := AnyOrder.first hi rfl
      repeat (obtain ⟨ha, hi⟩ := hi; first | obtain rfl := ha | clear ha)
      clear hi
      try simp only [sel_true, selv_true] at hK ⊢
     iterate 7
      ·
       refine AnyOrder.wpOp_go rfl (by rfl) ?_
       go_wp2_with fail
       exact ⟨_, _, _, _, _, _, _, _, _, _, _, _, _, _, _, _, rfl, rfl, HF⟩
     ·
      have hh : decide ((n : Int) < (n : Int)) = false := decide_eq_false (by omega)
      refine AnyOrder.wpOp_go rfl (by rfl) ?_
      go_wp2_with fail
      exact ⟨_, _, _, _, _, _, _, _, _, _, _, _, _, _, _, _, rfl, rfl, HF⟩
     iterate 8
      ·
       refine AnyOrder.wpOp_out rfl (by rfl) ?_
       exact hK _ _ ⟨_, _, _, _, _, _, _, _, _, _, _, _, _, _, _, _, rfl, rfl, HF⟩
    case last =>
     rintro L ac V ⟨l0, l1, l2, l3, l4, l5, l6, l7, l8, l9, l10, l11, l12, l13, l14, l15, rfl, rfl, HF⟩ hr
     obtain ⟨rfl, rfl, rfl, rfl, rfl, rfl, rfl, rfl, rfl, rfl, rfl, rfl, rfl, rfl, rfl, rfl, -⟩ := AnyOrder.alls rfl (by kernel_rfl) hr
     clear hr
     simp only [sel_true, selv_true]
     go_wp2
     refine bodyPost_ret (results_tmp2 rfl _ _ _) rfl ?_
     exact ⟨by rw [HR.out]; rfl, HF.out.below⟩
theorem eql_func_nil (W : World) : (binOp .eql 86 cmpV .nilFunc).run Tryz.prog W = .ok (.bool false) W := by
 have h : ∀ d : Nat, (Op.equalIn (d + 1) 86 cmpV .nilFunc).run Tryz.prog W = .ok false W := fun d => by
  simp [Op.equalIn, run_underlying Tryz.underlying86]
 simp only [binOp]
 simp [Op.equal, Op.maxDepth, h 9999]
set_option maxRecDepth 100000 in
theorem zero_call (mp : Nat) (sl : Value) (w : World) (hmp : w.heap[mp]? = some (.cells #[cmpV, sl] 159 (0, 0))) : Calls Tryz.prog 103 #[.pointer (some ⟨mp, 0, none⟩)] w fun e w' => e = .returned (.bool false) ∧ w' = w := by
 have c0 : w.cell? ⟨mp, 0, none⟩ = _ := (za4 hmp 0).trans rfl
 have hq := eql_func_nil
 clear hmp
 go_enter Tryz.func103, Tryz.ntmps103
 go_wp2
 go_ret
 exact ⟨rfl, rfl⟩
structure Fnd (W0 : World) (mp bm B : Nat) (A : Option Addr) (n c : Nat) (ks : List Dot) (vs : List Value) (d : Dot) (V : World) : Prop where
 below : Below W0.heap.size W0 V
 map : W0.heap[mp]? = some (.cells #[cmpV, .slice A n c] 159 (0, 0))
 box : W0.heap[bm]? = some (.cells #[.pointer (some ⟨mp, 0, none⟩)] 114 (0, 0))
 key : W0.heap[B]? = some (.cells #[.int .i64 d.f0, .int .i64 d.f1] 39 (0, 0))
 ents : Ents W0 A n ks vs
theorem Fnd.more {W0 V V' : World} {mp bm B : Nat} {A : Option Addr} {n c : Nat} {ks : List Dot} {vs : List Value} {d : Dot} (h : Fnd W0 mp bm B A n c ks vs d V) (hb : Below V.heap.size V V') : Fnd W0 mp bm B A n c ks vs d V' := ⟨za8 h.below hb, h.map, h.box, h.key, h.ents⟩
def findInv (W0 : World) (mp bm B : Nat) (A : Option Addr) (n c : Nat) (ks : List Dot) (vs : List Value) (d : Dot) (L : Array Bool) (ac : Act) (V : World) : Prop := ∃ (l0 l1 l2 l3 l4 l5 l6 l7 l8 l9 l10 : Bool), L = #[l0, l1, l2, l3, l4, l5, l6, l7, l8, l9, l10] ∧ ac = { tmps := #[.pointer (some ⟨mp, 0, none⟩), vDot d, .pointer (some ⟨bm, 0, none⟩), .pointer (some ⟨B, 0, none⟩), selv l9 (.int .i64 (posK ks d)) (.int .i64 0), selv l10 (.bool (hasK ks d)) (.bool false), .pointer (some ⟨mp, 0, none⟩), .bool false, sel l0 (.pointer (some ⟨mp, 0, none⟩)), sel l1 (.pointer (some ⟨mp, 0, none⟩)), sel l2 (.pointer (some ⟨mp, 1, none⟩)), sel l3 (.slice A n c), sel l4 (vDot d), sel l5 (.func (.func 109) #[] #[.pointer (some ⟨bm, 0, none⟩)]), sel l6 (.tuple #[.int .i64 (posK ks d), .bool (hasK ks d)]), sel l7 (.int .i64 (posK ks d)), sel l8 (.bool (hasK ks d))], defers := [] } ∧ za0 (Fnd W0 mp bm B A n c ks vs d V)
set_option maxHeartbeats 1000000 in
set_option maxRecDepth 100000 in
theorem find_call (mp : Nat) (ks : List Dot) (vs : List Value) (A : Option Addr) (n c : Nat) (d : Dot) (w : World) (hs : incB ks = true) (he : Ents w A n ks vs) (hmp : w.heap[mp]? = some (.cells #[cmpV, .slice A n c] 159 (0, 0))) :
  Calls Tryz.prog 102 #[.pointer (some ⟨mp, 0, none⟩), vDot d] w fun e w' => e = .returned (.tuple #[.int .i64 (posK ks d), .bool (hasK ks d)]) ∧ Below w.heap.size w w' := by
 have HS := za0.mk hs
 have HF0 : za0 (Fnd ((w.alloc (.cells #[.pointer (some ⟨mp, 0, none⟩)] 114 (0, 0))).alloc (.cells #[.int .i64 d.f0, .int .i64 d.f1] 39 (0, 0))) mp w.heap.size (w.heap.size + 1) A n c ks vs d ((w.alloc (.cells #[.pointer (some ⟨mp, 0, none⟩)] 114 (0, 0))).alloc (.cells #[.int .i64 d.f0, .int .i64 d.f1] 39 (0, 0)))) := ⟨⟨Below.refl _ _, za6 (za6 hmp _) _, za6 (zaj _ _) _, by have := zaj (w.alloc (.cells #[.pointer (some ⟨mp, 0, none⟩)] 114 (0, 0))) (.cells #[.int .i64 d.f0, .int .i64 d.f1] 39 (0, 0)); rwa [World.size_alloc] at this, he.below (((Gr.alloc w _).trans (Gr.alloc _ _)).below)⟩⟩
 have HW := za0.mk ((Gr.alloc w (.cells #[.pointer (some ⟨mp, 0, none⟩)] 114 (0, 0))).trans (Gr.alloc _ (.cells #[.int .i64 d.f0, .int .i64 d.f1] 39 (0, 0)))).below
 clear hs he hmp
 go_enter Tryz.func102, Tryz.ntmps102
 go_wp2_with fail
 refine (zero_call mp _ _ HF0.out.map).mono ?_
 rintro e w1 ⟨rfl, rfl⟩
 go_wp2_with fail
 refine AnyOrder.wp_region (by kernel_rfl) (findInv ((w.alloc (.cells #[.pointer (some ⟨mp, 0, none⟩)] 114 (0, 0))).alloc (.cells #[.int .i64 d.f0, .int .i64 d.f1] 39 (0, 0))) mp w.heap.size (w.heap.size + 1) A n c ks vs d) ?start ?step ?last
 case start => exact ⟨false, false, false, false, false, false, false, false, false, false, false, rfl, rfl, ⟨HF0.out.more (Gr.drew _).below⟩⟩
 case step =>
  rintro L ac V i ⟨l0, l1, l2, l3, l4, l5, l6, l7, l8, l9, l10, rfl, rfl, HF⟩ hi K hK
  rcases AnyOrder.up hi [0, 1, 2, 5, 7, 8, 9, 10, 3, 4, 6] rfl with rfl | rfl | rfl | rfl | rfl | rfl | rfl | rfl | rfl | rfl | rfl
  all_goals
   replace hi := AnyOrder.first hi rfl
   repeat (obtain ⟨ha, hi⟩ := hi; first | obtain rfl := ha | clear ha)
   clear hi
   try simp only [sel_true, selv_true] at hK ⊢
  ·
   have cb0 : V.cell? ⟨w.heap.size, 0, none⟩ = _ := (za4 (zab HF.out.box HF.out.below) 0).trans rfl
   refine AnyOrder.wpOp_go rfl (by rfl) ?_
   go_wp2_with fail
   exact ⟨_, _, _, _, _, _, _, _, _, _, _, rfl, rfl, HF⟩
  iterate 7
   ·
    refine AnyOrder.wpOp_go rfl (by rfl) ?_
    go_wp2_with fail
    exact ⟨_, _, _, _, _, _, _, _, _, _, _, rfl, rfl, HF⟩
  ·
   have cm1 : V.cell? ⟨mp, 1, none⟩ = _ := (za4 (zab HF.out.map HF.out.below) 1).trans rfl
   refine AnyOrder.wpOp_go rfl (by rfl) ?_
   go_wp2_with fail
   exact ⟨_, _, _, _, _, _, _, _, _, _, _, rfl, rfl, HF⟩
  ·
   have ck0 : V.cell? ⟨w.heap.size + 1, 0, none⟩ = _ := (za4 (zab HF.out.key HF.out.below) 0).trans rfl
   have ck1 : V.cell? ⟨w.heap.size + 1, 1, none⟩ = _ := (za4 (zab HF.out.key HF.out.below) 1).trans rfl
   refine AnyOrder.wpOp_go rfl (by rfl) ?_
   go_wp2_with fail
   exact ⟨_, _, _, _, _, _, _, _, _, _, _, rfl, rfl, HF⟩
  ·
   refine AnyOrder.wpOp_go rfl (by rfl) ?_
   go_wp2_with fail
   refine (bsearch_call ks vs A n c d w.heap.size mp _ V HS.out (HF.out.ents.below HF.out.below) (zab HF.out.box HF.out.below) (zab HF.out.map HF.out.below)).mono ?_
   rintro e V' ⟨rfl, hb⟩
   exact hK _ _ ⟨_, _, _, _, _, _, _, _, _, _, _, rfl, rfl, ⟨HF.out.more hb⟩⟩
 case last =>
  rintro L ac V ⟨l0, l1, l2, l3, l4, l5, l6, l7, l8, l9, l10, rfl, rfl, HF⟩ hr
  obtain ⟨rfl, rfl, rfl, rfl, rfl, rfl, rfl, rfl, rfl, rfl, rfl, -⟩ := AnyOrder.alls rfl (by kernel_rfl) hr
  clear hr
  simp only [sel_true, selv_true]
  go_wp2
  refine bodyPost_ret (results_tmp2 rfl _ _ _) rfl ?_
  exact ⟨rfl, za8 HW.out HF.out.below⟩
def getV (ks : List Dot) (vs : List Value) (d : Dot) : Value := if hasK ks d = true then (vs[posK ks d]?).getD undef else .slice none 0 0
theorem hasK_lt {ks : List Dot} {d : Dot} (h : hasK ks d = true) : posK ks d < ks.length := by
 unfold hasK at h
 exact (List.getElem?_eq_some_iff.1 (of_decide_eq_true h)).1
set_option maxHeartbeats 1000000 in
set_option maxRecDepth 100000 in
theorem get_call (mp : Nat) (ks : List Dot) (vs : List Value) (A : Option Addr) (n c : Nat) (d : Dot) (w : World) (hs : incB ks = true) (he : Ents w A n ks vs) (hmp : w.heap[mp]? = some (.cells #[cmpV, .slice A n c] 159 (0, 0))) :
  Calls Tryz.prog 90 #[.pointer (some ⟨mp, 0, none⟩), vDot d] w fun e w' => e = .returned (.tuple #[getV ks vs d, .bool (hasK ks d)]) ∧ Below w.heap.size w w' := by
 have HS := za0.mk hs
 have hb1 := (Gr.alloc w (.cells #[.int .i64 d.f0, .int .i64 d.f1] 39 (0, 0))).below
 have HE := za0.mk (he.below hb1)
 have HM := za0.mk (zab hmp hb1)
 have HK : za0 ((w.alloc (.cells #[.int .i64 d.f0, .int .i64 d.f1] 39 (0, 0))).heap[w.heap.size]? = some (.cells #[.int .i64 d.f0, .int .i64 d.f1] 39 (0, 0))) := ⟨zaj _ _⟩
 have HB := za0.mk hb1
 have hc0 : (w.alloc (.cells #[.int .i64 d.f0, .int .i64 d.f1] 39 (0, 0))).cell? ⟨w.heap.size, 0, none⟩ = _ := (za4 HK.out 0).trans rfl
 have hc1 : (w.alloc (.cells #[.int .i64 d.f0, .int .i64 d.f1] 39 (0, 0))).cell? ⟨w.heap.size, 1, none⟩ = _ := (za4 HK.out 1).trans rfl
 clear hs he hmp hb1
 obtain ⟨q, HQ⟩ : ∃ q, za0 (posK ks d = q) := ⟨_, ⟨rfl⟩⟩
 obtain ⟨hf, HHF⟩ : ∃ hf, za0 (hasK ks d = hf) := ⟨_, ⟨rfl⟩⟩
 obtain ⟨rv, HRV⟩ : ∃ rv, za0 (getV ks vs d = rv) := ⟨_, ⟨rfl⟩⟩
 rw [HHF.out, HRV.out]
 go_enter Tryz.func90, Tryz.ntmps90
 go_wp2_with fail
 refine (find_call mp ks vs A n c d _ HS.out HE.out HM.out).mono ?_
 rintro e w1 ⟨rfl, hb⟩
 have HE := za0.mk (HE.out.below hb)
 have HM := za0.mk (zab HM.out hb)
 have HB := za0.mk (za8 HB.out hb)
 rw [HQ.out, HHF.out]
 clear hc0 hc1 hb
 cases hf with
 | false =>
  go_wp2
  refine bodyPost_ret (results_tmp2 rfl _ _ _) rfl ?_
  exact ⟨by rw [← HRV.out, getV, HHF.out]; rfl, HB.out⟩
 | true =>
  have hqn : q < n := by have := hasK_lt HHF.out; rw [HQ.out, HE.out.kl] at this; exact this
  obtain ⟨k, v, eb, hk, hvk, hv1, rfl, c0, c1, c2⟩ := HE.out.get hqn
  have hm1 : w1.cell? ⟨mp, 1, none⟩ = _ := (za4 HM.out 1).trans rfl
  have HV : za0 (getV ks vs d = v) := ⟨by rw [getV, HHF.out, HQ.out, hvk]; rfl⟩
  clear hk hvk
  go_wp2
  refine bodyPost_ret (results_tmp2 rfl _ _ _) rfl ?_
  exact ⟨by rw [← HRV.out, HV.out]; rfl, HB.out⟩
end
end Go.Proofs.YtefejajofmpjdaaGreat.PWalk
end
section
namespace Go.Proofs.YtefejajofmpjdaaGreat.PWalk
open Go.RowKit Go.Proofs.YtefejajofmpjdaaGreatW.PrintWords Go.Proofs.YtefejajofmpjdaaGreatW.PrintLast Go.Proofs.YtefejajofmpjdaaGreatW.PrintMore
set_option linter.unusedVariables false
set_option linter.unusedSimpArgs false
section
section
open Go.Shelf
attribute [local go_sem] Oper.semAt_some
theorem info110 : (Tryz.prog.info? 110).map (fun i => (i.zero, i.size, i.bytes)) = some (some (.agg #[(.int .i64 0), (.int .i64 0)]), 2, 16) := by kernel_rfl
theorem info42 : (Tryz.prog.info? 42).map (fun i => (i.zero, i.size, i.bytes)) = some (some (.agg #[(.int .i64 0), (.int .i64 0), (.int .i64 0), (.int .i64 0), (.int .i64 0), (.int .i32 0)]), 6, 48) := by kernel_rfl
set_option maxRecDepth 100000 in
theorem dotKey : MapLaw.MKey (κ := Dot) Tryz.prog 39 vDot where
 check := fun b x w => by
  unfold Instr.checkKey
  go_simp
  rfl
 equal := fun x y w => by
  unfold Op.equal Op.maxDepth
  rw [eqA39]
  congr 1
  rw [Bool.eq_iff_iff]
  simp [Dot.ext_iff']
 desc := ⟨_, Tryz.underlying39, .inl fun x y => rfl⟩
 bits := fun x => by simp [Instr.sameBits]
abbrev vNat (n : Nat) : Value := .int .i64 n
def flawOf (l : List Node) (m : List (Dot × Nat)) (i : Nat) : Int :=
 match l[i]? with
 | none => 0
 | some x =>
  if nodeOk x = false then 1
  else if 0 < i ∧ (match l[i - 1]? with | some p => dotLt p.f0 x.f0 | none => true) = false then 2
  else if dotRoot x.f1 = true then 0
  else match MapLaw.mget m x.f1 with
   | none => 3
   | some k => if (match l[k]? with | some p => decide (x.f2 ≤ p.f2) | none => false) = true then 4 else 0
theorem flawOf_at {l : List Node} {m : List (Dot × Nat)} {i : Nat} {x : Node} (hx : l[i]? = some x) : flawOf l m i =
  (if nodeOk x = false then 1
  else if 0 < i ∧ (match l[i - 1]? with | some p => dotLt p.f0 x.f0 | none => true) = false then 2
  else if dotRoot x.f1 = true then 0
  else match MapLaw.mget m x.f1 with
   | none => 3
   | some k => if (match l[k]? with | some p => decide (x.f2 ≤ p.f2) | none => false) = true then 4 else 0) := by
 unfold flawOf; rw [hx]
set_option maxHeartbeats 1000000 in
set_option maxRecDepth 100000 in
theorem flaw.calls (A0 : Option Addr) (c0 : Nat) (l0 : List Node) (b : Nat) (m : List (Dot × Nat)) (i : Nat) (w : World) (hr0 : Kd.C k42 w A0 l0.length l0) (hc0 : l0.length ≤ c0)
  (hl : l0.length ≤ 1000000) (hm : MapLaw.MapIs vDot vNat w b m) (hb : ∀ d k, MapLaw.mget m d = some k → k < l0.length) (hi : i < l0.length) :
  Calls Tryz.prog 64 #[.slice A0 l0.length c0, .map (some b), .int .i64 i] w fun e w' => e = .returned (.int .i64 (flawOf l0 m i)) ∧ Below w.heap.size w w' := by
 obtain ⟨x, hx⟩ : ∃ x, za0 (l0[i]? = some x) := ⟨_, ⟨List.getElem?_eq_getElem hi⟩⟩
 obtain ⟨ad, e, h0, h1, h2, h3, h4, h5⟩ := node_at hr0 (Below.refl _ _) i x hx.out
 subst e
 have HR := za0.mk hr0
 have HC := za0.mk hc0
 have HM := za0.mk hm
 have HB := za0.mk hb
 have HF := za0.mk (flawOf_at (m := m) hx.out)
 clear hr0 hc0 hm hb
 obtain ⟨q, is, HV, HI⟩ : ∃ (q : Nat) (is : Bool), za0 (((MapLaw.mget m x.f1).map vNat).getD (.int .i64 0) = vNat q) ∧ za0 ((MapLaw.mget m x.f1).isSome = is ∧ (is = true → MapLaw.mget m x.f1 = some q)) := by
  cases h : MapLaw.mget m x.f1 with
  | none => exact ⟨0, false, ⟨rfl⟩, ⟨rfl, by simp⟩⟩
  | some q => exact ⟨q, true, ⟨rfl⟩, ⟨rfl, fun _ => rfl⟩⟩
 have hu1 := Tryz.underlying39
 have hu2 := Tryz.underlying42
 go_enter Tryz.func64, Tryz.ntmps64
 go_wp2_with (first | (at_lookup; refine MapLaw.wpList_lookup rfl _ _ _ true rfl dotKey Tryz.underlying106 (z := .int .i64 0) Tryz.zeroValue2 x.f1 rfl rfl (HM.out.below ((Below.refl _ _).alloc (Nat.le_refl _) _)) HV.out HI.out.1 ?_) | fail)
 refine (dot_Root.calls _ _ _ _ (dotRoot_is _ _)).mono ?_
 rintro e W1 ⟨rfl, hd1⟩
 have BK1 := za0.mk (zab (zaj w _) hd1)
 have HW1 := za0.mk (za8 (za2 (Below.refl w.heap.size w) _) hd1)
 clear hd1 h0 h1 h2 h3 h4 h5
 obtain ⟨rt, HRT⟩ : ∃ rt, za0 (dotRoot x.f1 = rt) := ⟨_, ⟨rfl⟩⟩
 rw [show dotRoot ⟨x.f1.f0, x.f1.f1⟩ = rt from HRT.out]
 have hc0 : W1.cell? ⟨w.heap.size, 0, none⟩ = _ := (za4 BK1.out 0).trans rfl
 have hc1 : W1.cell? ⟨w.heap.size, 1, none⟩ = _ := (za4 BK1.out 1).trans rfl
 have hc2 : W1.cell? ⟨w.heap.size, 2, none⟩ = _ := (za4 BK1.out 2).trans rfl
 have hc3 : W1.cell? ⟨w.heap.size, 3, none⟩ = _ := (za4 BK1.out 3).trans rfl
 have hc4 : W1.cell? ⟨w.heap.size, 4, none⟩ = _ := (za4 BK1.out 4).trans rfl
 have hc5 : W1.cell? ⟨w.heap.size, 5, none⟩ = _ := (za4 BK1.out 5).trans rfl
 go_wp2_with fail
 refine (node_Valid.calls 1 _ _ _ _ _ _ _ _ (nodeValid_is 0 x)).mono ?_
 rintro e W2 ⟨rfl, hd2⟩
 have BK2 := za0.mk (zab BK1.out hd2)
 have HW2 := za0.mk (za8 HW1.out hd2)
 clear hd2 hc0 hc1 hc2 hc3 hc4 hc5
 cases hok : nodeOk x with
 | false =>
  have HOK := za0.mk hok
  clear hok
  go_wp2
  go_ret
  exact ⟨by rw [HF.out, if_pos HOK.out]; rfl, HW2.out⟩
 | true =>
  have HOK := za0.mk hok
  clear hok
  have hc0 : W2.cell? ⟨w.heap.size, 0, none⟩ = _ := (za4 BK2.out 0).trans rfl
  have hc1 : W2.cell? ⟨w.heap.size, 1, none⟩ = _ := (za4 BK2.out 1).trans rfl
  have hc2 : W2.cell? ⟨w.heap.size, 2, none⟩ = _ := (za4 BK2.out 2).trans rfl
  have hc3 : W2.cell? ⟨w.heap.size, 3, none⟩ = _ := (za4 BK2.out 3).trans rfl
  have hc4 : W2.cell? ⟨w.heap.size, 4, none⟩ = _ := (za4 BK2.out 4).trans rfl
  have hc5 : W2.cell? ⟨w.heap.size, 5, none⟩ = _ := (za4 BK2.out 5).trans rfl
  by_cases h0 : 0 < i
  ·
   obtain ⟨p, hp⟩ : ∃ p, za0 (l0[i - 1]? = some p) := ⟨_, ⟨List.getElem?_eq_getElem (by omega)⟩⟩
   obtain ⟨ad2, e2, g0, g1, g2, g3, g4, g5⟩ := node_at HR.out HW2.out (i - 1) p hp.out
   cases e2
   have hb0 : decide ((i : Int) > 0) = true := by simp; omega
   have hb2 : i - 1 < l0.length := by omega
   have hb1 : IntKind.i64.wrap ((i : Int) - 1) = ((i - 1 : Nat) : Int) := by rw [IntWalk.i64_in _ (by omega)]; omega
   go_wp2_with fail
   go_still_tail 11, (by kernel_rfl)
   change wpList _ _ _ _ _ W2.drew
   go_wp2_with fail
   refine (dot_Compare.calls 3 _ _ _ _ _ _ (dotCompare_is 0 p.f0 x.f0)).mono ?_
   rintro e W3 ⟨rfl, hd3⟩
   have BK3 := za0.mk (zab (zaa BK2.out) hd3)
   have HW3 := za0.mk (za8 HW2.out.drew hd3)
   clear hd3 hc0 hc1 hc2 hc3 hc4 hc5 g0 g1 g2 g3 g4 g5 hb1
   cases hlt : dotLt p.f0 x.f0 with
   | false =>
    have hge : decide (dotCmp p.f0 x.f0 ≥ 0) = true := decide_eq_true ((dotCmp_ge _ _).2 (by simp [hlt]))
    have HLT := za0.mk hlt
    clear hlt
    go_wp2
    go_ret
    exact ⟨by rw [HF.out, if_neg (by rw [HOK.out]; simp), if_pos ⟨h0, by rw [hp.out]; exact HLT.out⟩]; rfl, (by repeat (first | exact HW3.out | apply za1))⟩
   | true =>
    have hge : decide (dotCmp p.f0 x.f0 ≥ 0) = false := decide_eq_false (fun h => (dotCmp_ge _ _).1 h hlt)
    have NOTLT : za0 (¬ (0 < i ∧ (match l0[i - 1]? with | some p => dotLt p.f0 x.f0 | none => true) = false)) := ⟨by rw [hp.out]; simp [hlt]⟩
    clear hlt
    have hc0 : W3.cell? ⟨w.heap.size, 0, none⟩ = _ := (za4 BK3.out 0).trans rfl
    have hc4 : W3.cell? ⟨w.heap.size, 4, none⟩ = _ := (za4 BK3.out 4).trans rfl
    cases hrt : rt with
    | true =>
     have HRT2 : za0 (dotRoot x.f1 = true) := ⟨HRT.out.trans hrt⟩
     subst hrt
     go_wp2
     go_quiet (fail)
     go_wp2
     go_ret
     exact ⟨by rw [HF.out, if_neg (by rw [HOK.out]; simp), if_neg NOTLT.out, if_pos HRT2.out]; rfl, (by repeat (first | exact HW3.out | apply za1))⟩
    | false =>
     have HRT2 : za0 (¬ dotRoot x.f1 = true) := ⟨by rw [HRT.out, hrt]; simp⟩
     subst hrt
     cases his : is with
     | false =>
      have HNO : za0 (MapLaw.mget m x.f1 = none) := ⟨by have := HI.out.1; rw [his] at this; simpa using this⟩
      subst his
      go_wp2
      go_ret
      exact ⟨by rw [HF.out, if_neg (by rw [HOK.out]; simp), if_neg NOTLT.out, if_neg HRT2.out, HNO.out]; rfl, (by repeat (first | exact HW3.out | apply za1))⟩
     | true =>
      have HG : za0 (MapLaw.mget m x.f1 = some q) := ⟨HI.out.2 his⟩
      subst his
      have hq := HB.out _ _ HG.out
      obtain ⟨y, hy⟩ : ∃ y, za0 (l0[q]? = some y) := ⟨_, ⟨List.getElem?_eq_getElem hq⟩⟩
      obtain ⟨ad3, e3, f0, f1, f2, f3, f4, f5⟩ := node_at HR.out HW3.out q y hy.out
      cases e3
      cases hcmp : decide (y.f2 ≥ x.f2) with
      | true =>
       have HC2 := za0.mk hcmp
       go_wp2
       go_quiet (fail)
       go_wp2
       go_ret
       exact ⟨by rw [HF.out, if_neg (by rw [HOK.out]; simp), if_neg NOTLT.out, if_neg HRT2.out, HG.out]; simp only [hy.out]; rw [if_pos (by simpa using HC2.out)]; rfl, (by repeat (first | exact HW3.out | apply za1))⟩
      | false =>
       have HC2 := za0.mk hcmp
       go_wp2
       go_quiet (fail)
       go_wp2
       go_ret
       exact ⟨by rw [HF.out, if_neg (by rw [HOK.out]; simp), if_neg NOTLT.out, if_neg HRT2.out, HG.out]; simp only [hy.out]; rw [if_neg (by simpa using HC2.out)]; rfl, (by repeat (first | exact HW3.out | apply za1))⟩

  ·
   have hb0 : decide ((i : Int) > 0) = false := by simp; omega
   have NOTLT : za0 (¬ (0 < i ∧ (match l0[i - 1]? with | some p => dotLt p.f0 x.f0 | none => true) = false)) := ⟨fun h => h0 h.1⟩
   go_wp2_with fail
   go_quiet (fail)
   cases hrt : rt with
   | true =>
    have HRT2 : za0 (dotRoot x.f1 = true) := ⟨HRT.out.trans hrt⟩
    subst hrt
    go_wp2
    go_quiet (fail)
    go_wp2
    go_ret
    exact ⟨by rw [HF.out, if_neg (by rw [HOK.out]; simp), if_neg NOTLT.out, if_pos HRT2.out]; rfl, (by repeat (first | exact HW2.out | apply za1))⟩
   | false =>
    have HRT2 : za0 (¬ dotRoot x.f1 = true) := ⟨by rw [HRT.out, hrt]; simp⟩
    subst hrt
    cases his : is with
    | false =>
     have HNO : za0 (MapLaw.mget m x.f1 = none) := ⟨by have := HI.out.1; rw [his] at this; simpa using this⟩
     subst his
     go_wp2
     go_ret
     exact ⟨by rw [HF.out, if_neg (by rw [HOK.out]; simp), if_neg NOTLT.out, if_neg HRT2.out, HNO.out]; rfl, (by repeat (first | exact HW2.out | apply za1))⟩
    | true =>
     have HG : za0 (MapLaw.mget m x.f1 = some q) := ⟨HI.out.2 his⟩
     subst his
     have hq := HB.out _ _ HG.out
     obtain ⟨y, hy⟩ : ∃ y, za0 (l0[q]? = some y) := ⟨_, ⟨List.getElem?_eq_getElem hq⟩⟩
     obtain ⟨ad3, e3, f0, f1, f2, f3, f4, f5⟩ := node_at HR.out HW2.out q y hy.out
     cases e3
     cases hcmp : decide (y.f2 ≥ x.f2) with
     | true =>
      have HC2 := za0.mk hcmp
      go_wp2
      go_quiet (fail)
      go_wp2
      go_ret
      exact ⟨by rw [HF.out, if_neg (by rw [HOK.out]; simp), if_neg NOTLT.out, if_neg HRT2.out, HG.out]; simp only [hy.out]; rw [if_pos (by simpa using HC2.out)]; rfl, (by repeat (first | exact HW2.out | apply za1))⟩
     | false =>
      have HC2 := za0.mk hcmp
      go_wp2
      go_quiet (fail)
      go_wp2
      go_ret
      exact ⟨by rw [HF.out, if_neg (by rw [HOK.out]; simp), if_neg NOTLT.out, if_neg HRT2.out, HG.out]; simp only [hy.out]; rw [if_neg (by simpa using HC2.out)]; rfl, (by repeat (first | exact HW2.out | apply za1))⟩
/-- Blocks below n are as they were, but for those of E. -/
def KpE (n : Nat) (E : Nat → Prop) (W W' : World) : Prop := W.heap.size ≤ W'.heap.size ∧ ∀ i, i < n → ¬ E i → W'.heap[i]? = W.heap[i]?
theorem KpE.refl (n : Nat) (E : Nat → Prop) (W : World) : KpE n E W W := ⟨Nat.le_refl _, fun _ _ _ => rfl⟩
theorem KpE.trans {n : Nat} {E : Nat → Prop} {A B C : World} (h : KpE n E A B) (k : KpE n E B C) : KpE n E A C := ⟨Nat.le_trans h.1 k.1, fun i hi he => (k.2 i hi he).trans (h.2 i hi he)⟩
theorem KpE.below {n : Nat} {E : Nat → Prop} {W W' : World} (h : Below n W W') : KpE n E W W' := ⟨h.size, fun i hi _ => h.block i hi⟩
theorem KpE.grown {n : Nat} {E : Nat → Prop} {W W' : World} {row : Option Nat} (h : W.grownBy W' row) (hr : ∀ r, row = some r → E r) (hn : n ≤ W.heap.size) : KpE n E W W' :=
 ⟨h.size, fun i hi he => h.block i (by omega) (fun e => he (hr i e.symm))⟩
theorem KpE.cell {n : Nat} {E : Nat → Prop} {W W' : World} (h : KpE n E W W') {p : Addr} (hp : p.block < n) (he : ¬ E p.block) {v : Value} (hc : W.cell? p = some v) : W'.cell? p = some v := by
 rw [← hc]
 exact World.cell?_of_block (w := W) (h.2 _ hp he)
theorem KpE.put {n m : Nat} {E : Nat → Prop} (hn : n ≤ m) (W : World) (l : Nat) (o o' : Obj) (hl : m ≤ l) : KpE n E W (W.putObj l o') :=
 ⟨by simp [World.putObj], fun i hi _ => World.putObj_heap_other (by omega)⟩
/-- The elements with their indices, backwards. -/
def bk {α : Type} (l : List α) : List (Nat × α) := (l.zipIdx.map fun p => (p.2, p.1)).reverse
theorem bk_length {α : Type} (l : List α) : (bk l).length = l.length := by simp [bk]
theorem bk_get {α : Type} (l : List α) (k : Nat) (hk : k < l.length) : (bk l)[k]? = some (l.length - 1 - k, l[l.length - 1 - k]'(by omega)) := by
 unfold bk
 rw [List.getElem?_reverse (by simpa using hk)]
 simp only [List.length_map, List.length_zipIdx, List.getElem?_map, List.getElem?_zipIdx, Nat.zero_add]
 rw [List.getElem?_eq_getElem (by omega)]; rfl
theorem bk_take_succ {α : Type} (l : List α) (k : Nat) (hk : k < l.length) : (bk l).take (k + 1) = (bk l).take k ++ [(l.length - 1 - k, l[l.length - 1 - k]'(by omega))] := by
 have h := bk_get l k hk
 have hb : k < (bk l).length := by rw [bk_length]; exact hk
 rw [List.getElem?_eq_getElem hb] at h
 rw [List.take_succ_eq_append_getElem hb, Option.some.inj h]
theorem calls_of_wp_m {P : Program} {f : FuncId} {fn : Func} {c : Code} {args : Array Value} {w : World} {R : Ending → World → Prop} (hf : P.funcs[f]? = some fn) (hb : fn.body = some c)
  (h : c.wp P (bodyPostM Fence.wide 9 P fn R) { tmps := args ++ Array.replicate (fn.ntmps - args.size) undef, defers := [] } w) : Calls P f args w R :=
 (callsIn_wide (n := 9)).1 (callsIn_of_wp_marks hf hb trivial (wpIn_wide.2 h) rfl)
theorem MapLaw.MapIs.ownFrom {κ β γ : Type} {enc : κ → Value} {val : β → Value} {b B : Nat} {m : γ → List (κ × β)} (hb : b < B) : OwnFrom B (fun s W => MapLaw.MapIs enc val W b (m s)) :=
 fun s W W' row hs hg hr => hs.same (hg.block b hs.lt (fun e => by have := (hr b e.symm).1; omega))
theorem blk_own {γ : Type} {g t B : Nat} {cs : γ → Array Value} : OwnFrom B (fun s W => W.heap[g]? = some (.cells (cs s) t (0, 0))) :=
 fun s W W' row hs hg hr => (hg.block g (zae hs) (fun e => by obtain ⟨_, o, ho, hc⟩ := hr g e.symm; rw [hs] at ho; cases ho; cases hc)).trans hs
theorem R_putObj {α : Type} {d : Kd α} {e base D : Nat} {ok : Nat → Prop} {w : World} {v : Value} {xs : List α} {o : Obj} (h : d.R e w base ok v xs) (hD : w.heap[D]? = some o) (hc : o.isCells = false) (o' : Obj) : d.R e (w.putObj D o') base ok v xs :=
 Kd.R_mono (Kd.R_grown (Kd.R_bound h) (grownBy_putObj' w D o') (fun k hk e => by cases e; obtain ⟨_, _, _, q, _, cells, hh⟩ := hk; rw [hD] at hh; cases hh; cases hc)) (fun _ hk => hk.1)
theorem R_apart_obj {α : Type} {d : Kd α} {e base g : Nat} {ok : Nat → Prop} {w : World} {v : Value} {xs : List α} {o : Obj} (h : d.R e w base ok v xs) (hg : w.heap[g]? = some o) (ho : ∀ cells, o ≠ .cells cells e (0, 0)) : some g ≠ v.ownBlock :=
 fun e' => by obtain ⟨cells, hh⟩ := Kd.R_typed h g e'.symm; rw [hg] at hh; exact ho _ (Option.some.inj hh)
theorem below_putObj {w W : World} (h : Below w.heap.size w W) {D : Nat} (hD : w.heap.size ≤ D) (o' : Obj) : Below w.heap.size w (W.putObj D o') :=
 h.grown (grownBy_putObj' W D o') h.size (fun k e => by cases e; exact hD)
def mkMark (D : Nat) : Deferred := { target := .collected D, args := #[] }
def Marks (n0 : Nat) (ds : List Deferred) (W : World) : Prop := ∃ Ds : List Nat, ds = Ds.map mkMark ∧ Ds.Nodup ∧ ∀ D ∈ Ds, n0 ≤ D ∧ W.heap[D]? = some (.deferred (some []))
structure OnlyMarks (n0 : Nat) (W W' : World) : Prop where
 os : W'.os = W.os
 tape : W'.tape = W.tape
 output : W'.output = W.output
 size : W'.heap.size = W.heap.size
 block : ∀ k, (k < n0 ∨ ∀ d, W.heap[k]? ≠ some (.deferred d)) → W'.heap[k]? = W.heap[k]?
theorem OnlyMarks.refl (n0 : Nat) (W : World) : OnlyMarks n0 W W := ⟨rfl, rfl, rfl, rfl, fun _ _ => rfl⟩
theorem OnlyMarks.step {n0 D : Nat} {W W' : World} (hD : n0 ≤ D) (hW : W.heap[D]? = some (.deferred (some []))) (h : OnlyMarks n0 (W.putObj D (.deferred none)) W') : OnlyMarks n0 W W' :=
 ⟨h.os, h.tape, h.output, by rw [h.size]; simp, fun k hk => by
  have hne : k ≠ D := by
   rcases hk with hk | hk
   ·
    omega
   ·
    intro e; subst e; exact hk _ hW
  have h1 : (W.putObj D (.deferred none)).heap[k]? = W.heap[k]? := World.putObj_heap_other hne
  exact (h.block k (hk.imp_right fun h2 d => by rw [h1]; exact h2 d)).trans h1⟩
theorem R_onlyMarks {α : Type} {d : Kd α} {e base n0 : Nat} {ok : Nat → Prop} {w w' : World} {v : Value} {xs : List α} (h : d.R e w base ok v xs) (hm : OnlyMarks n0 w w') : d.R e w' base ok v xs :=
 Kd.R_mono (Kd.R_step (Kd.R_bound h) (fun k hk _ => hm.block k (.inr fun o ho => by obtain ⟨_, _, _, q, _, cells, hh⟩ := hk; rw [ho] at hh; cases hh))) (fun _ hk => hk.1)
theorem below_onlyMarks {w W W' : World} (h : Below w.heap.size w W) (hm : OnlyMarks w.heap.size W W') : Below w.heap.size w W' :=
 ⟨hm.os.trans h.os, hm.tape.trans h.tape, hm.output.trans h.output, by rw [hm.size]; exact h.size, fun k hk => (hm.block k (.inl hk)).trans (h.block k hk)⟩
set_option maxRecDepth 100000 in
set_option maxHeartbeats 1000000 in
theorem bkNode_in (n lp Bs n₀ : Nat) (E : Nat → Prop) (A : Option Addr) (c0 : Nat) (xs : List Node) (hn : 1 ≤ n) (hm : xs.length ≤ 1000000) (J Jx : List (Nat × Node) → World → Prop)
  (hY : ∀ pre x W, J pre W → pre.length < xs.length → YieldAt Fence.wide (n - 1) Tryz.prog lp #[.int .i64 ((x : Nat × Node).1 : Int), vNode x.2] W fun e W' =>
   (e = .returned (.bool true) ∧ J (pre ++ [x]) W' ∧ KpE n₀ E W W') ∨ (e = .returned (.bool false) ∧ Jx (pre ++ [x]) W'))
  (W : World) (hBs : W.cell? ⟨Bs, 0, none⟩ = some (.slice A xs.length c0)) (hB0 : Bs < n₀) (hBE : ¬ E Bs) (hA : ∀ ad, A = some ad → 0 < xs.length → ad.block < n₀ ∧ ¬ E ad.block) (hr : Kd.C k42 W A xs.length xs) (h0 : J [] W) :
  CallsIn Fence.wide n Tryz.prog 87 #[.func (.yield lp) #[] #[], .pointer (some ⟨Bs, 0, none⟩)] W fun e W' => (∃ v, e = .returned v) ∧
   ((∃ ys, ys = bk xs ∧ J ys W') ∨ (∃ pre, pre <+: bk xs ∧ Jx pre W')) := by
 have hu := Tryz.underlying42
 have HY := za0.mk hY
 have HR := za0.mk hr
 have HA := za0.mk hA
 have HE := za0.mk hBE
 clear hY hr hA hBE
 refine callsIn_of_wp Tryz.func87 rfl trivial ?_ rfl
 simp only [Tryz.ntmps87, List.size_toArray, List.length_cons, List.length_nil, Nat.reduceAdd, Nat.reduceSub, Array.replicate_succ, Array.replicate_zero, List.push_toArray, List.append_toArray, List.nil_append, List.cons_append]
 gi_wp2
 gi_loopw [3] (fun i wr => ∃ k : Nat, k ≤ xs.length ∧ i = .int .i64 ((xs.length : Int) - 1 - k) ∧ za0 (J ((bk xs).take k) wr) ∧ za0 (KpE n₀ E W wr)) (fun i _ => (intOf i + 1).toNat)
 case atStart => exact ⟨0, Nat.zero_le _, by simp, ⟨h0⟩, ⟨KpE.refl _ _ _⟩⟩
 case round =>
  obtain ⟨k, hk, rfl, hJ, hK⟩ := hrel
  have hs : wr.cell? ⟨Bs, 0, none⟩ = some (.slice A xs.length c0) := hK.out.cell (p := ⟨Bs, 0, none⟩) hB0 HE.out hBs
  by_cases hlt : k < xs.length
  ·
   obtain ⟨x, hx⟩ : ∃ x, za0 (xs[xs.length - 1 - k]? = some x) := ⟨_, ⟨List.getElem?_eq_getElem (by omega)⟩⟩
   obtain ⟨ad, e, g0, g1, g2, g3, g4, g5⟩ := node_at HR.out (Below.refl _ _) _ x hx.out
   subst e
   obtain ⟨ha, hae⟩ := HA.out ad rfl (by omega)
   have hbl : (ad.add ((xs.length - 1 - k) * 6)).block = ad.block := by unfold Addr.add; split <;> rfl
   replace g0 := hK.out.cell (p := ad.add ((xs.length - 1 - k) * 6)) (by rw [hbl]; exact ha) (by rw [hbl]; exact hae) g0
   replace g1 := hK.out.cell (p := ⟨_, _, none⟩) (by simp only [hbl]; exact ha) (by simp only [hbl]; exact hae) g1
   replace g2 := hK.out.cell (p := ⟨_, _, none⟩) (by simp only [hbl]; exact ha) (by simp only [hbl]; exact hae) g2
   replace g3 := hK.out.cell (p := ⟨_, _, none⟩) (by simp only [hbl]; exact ha) (by simp only [hbl]; exact hae) g3
   replace g4 := hK.out.cell (p := ⟨_, _, none⟩) (by simp only [hbl]; exact ha) (by simp only [hbl]; exact hae) g4
   replace g5 := hK.out.cell (p := ⟨_, _, none⟩) (by simp only [hbl]; exact ha) (by simp only [hbl]; exact hae) g5
   clear hbl hae ha
   have hx' : x = xs[xs.length - 1 - k]'(by omega) := by have := hx.out; rw [List.getElem?_eq_getElem (by omega)] at this; exact (Option.some.inj this).symm
   have HT : za0 ((bk xs).take (k + 1) = (bk xs).take k ++ [(xs.length - 1 - k, x)]) := ⟨by rw [bk_take_succ xs k hlt, hx']⟩
   clear hx'
   have hi : ((xs.length : Int) - 1 - k) = ((xs.length - 1 - k : Nat) : Int) := by omega
   rw [hi]
   obtain ⟨j, hj⟩ : ∃ j, za0 (j = xs.length - 1 - k) := ⟨_, ⟨rfl⟩⟩
   rw [← hj.out] at g0 g1 g2 g3 g4 g5 ⊢
   have hjl : j < xs.length := by rw [hj.out]; omega
   obtain ⟨fn, tmps, assign, body, hy, hR⟩ := HY.out _ (j, x) wr hJ.out (by rw [List.length_take, bk_length]; omega)
   dsimp only at hy
   clear hi
   gi_wp2
   refine hR.mono ?_
   rintro e W3 (⟨rfl, hJ3, hk3⟩ | ⟨rfl, hJx3⟩)
   ·
    gi_wp2
    go_roundw
    case rel => exact ⟨k + 1, by omega, by rw [hj.out]; (try congr 1); (try omega), ⟨by rw [HT.out, ← hj.out]; exact hJ3⟩, ⟨hK.out.trans hk3⟩⟩
    case measure => simp [intOf] <;> omega
   ·
    gi_wp2
    refine bodyPost_ret (results_none rfl _ _ _) rfl ?_
    exact ⟨⟨_, rfl⟩, .inr ⟨_, by rw [hj.out, ← HT.out]; exact List.take_prefix _ _, hJx3⟩⟩
  ·
   obtain rfl : k = xs.length := by omega
   have hi : ((xs.length : Int) - 1 - xs.length) = -1 := by omega
   rw [hi]
   clear hi
   gi_wp2
   go_end0
   exact ⟨⟨_, rfl⟩, .inl ⟨_, rfl, by have := hJ.out; rwa [List.take_of_length_le (by rw [bk_length]; omega)] at this⟩⟩
set_option maxHeartbeats 400000 in
theorem BackwardNode.calls (A : Option Addr) (n c0 : Nat) (w : World) :
  Calls Tryz.prog 63 #[.slice A n c0] w fun e w' => e = .returned (.func (.func 87) #[] #[.pointer (some ⟨w.heap.size, 0, none⟩)]) ∧ w' = w.alloc (.cells #[.slice A n c0] 22) := by
 go_enter Tryz.func63, Tryz.ntmps63
 go_wp2
 go_ret
 exact ⟨rfl, rfl⟩
/-- Where the nodes are, after the first nodes from behind. -/
def atOf (pre : List (Nat × Node)) : List (Dot × Nat) := pre.foldl (fun m p => MapLaw.mset m p.2.f0 p.1) []
theorem atOf_snoc (pre : List (Nat × Node)) (x : Nat × Node) : atOf (pre ++ [x]) = MapLaw.mset (atOf pre) x.2.f0 x.1 := by simp [atOf]
abbrev Fault := S110
/-- The faults of the first k nodes. -/
def faultsUpto (l : List Node) (m : List (Dot × Nat)) (k : Nat) : List Fault := (List.range k).flatMap fun i => if flawOf l m i = 0 then [] else [⟨(i : Int), flawOf l m i⟩]
theorem faultsUpto_succ (l : List Node) (m : List (Dot × Nat)) (k : Nat) : faultsUpto l m (k + 1) = faultsUpto l m k ++ (if flawOf l m k = 0 then [] else [⟨(k : Int), flawOf l m k⟩]) := by
 simp [faultsUpto, List.range_succ]
theorem faultsUpto_length (l : List Node) (m : List (Dot × Nat)) (k : Nat) : (faultsUpto l m k).length ≤ k := by
 induction k with
 | zero => simp [faultsUpto]
 | succ k ih => rw [faultsUpto_succ, List.length_append]; split <;> simp <;> omega
def faultsOf (l : List Node) : List Fault := faultsUpto l (atOf (bk l)) l.length
theorem atOf_lt (n : Nat) : ∀ (pre : List (Nat × Node)) (m : List (Dot × Nat)), (∀ x ∈ pre, x.1 < n) → (∀ d k, MapLaw.mget m d = some k → k < n) → ∀ d k, MapLaw.mget (pre.foldl (fun m p => MapLaw.mset m p.2.f0 p.1) m) d = some k → k < n
 | [], m, _, hm => hm
 | x :: pre, m, hx, hm => by
  refine atOf_lt n pre _ (fun y hy => hx y (List.mem_cons_of_mem _ hy)) ?_
  intro d k h
  rw [MapLaw.mget_mset] at h
  split at h
  ·
   cases h; exact hx x List.mem_cons_self
  ·
   exact hm d k h
theorem bk_lt {α : Type} (l : List α) : ∀ x ∈ bk l, x.1 < l.length := by
 intro x hx
 unfold bk at hx
 rw [List.mem_reverse, List.mem_map] at hx
 obtain ⟨p, hp, rfl⟩ := hx
 exact List.snd_lt_of_mem_zipIdx hp
theorem atOf_bk_lt (l : List Node) : ∀ d k, MapLaw.mget (atOf (bk l)) d = some k → k < l.length :=
 atOf_lt l.length (bk l) [] (bk_lt l) (fun d k h => by simp [MapLaw.mget_nil] at h)
set_option maxHeartbeats 1000000 in
set_option maxRecDepth 100000 in
theorem Faults.walk (A0 : Option Addr) (c0 : Nat) (l0 : List Node) (w : World) (hr0 : Kd.C k42 w A0 l0.length l0) (hc0 : l0.length ≤ c0) (hl : l0.length ≤ 1000000) :
  Calls Tryz.prog 47 #[.slice A0 l0.length c0] w fun e w' => ∃ v0_ : Value, e = .returned (v0_) ∧ Kd.R k110 110 w' w.heap.size (fun _ => True) v0_ (faultsOf l0) ∧ Below w.heap.size w w' := by
 have HR := za0.mk hr0
 have HC := za0.mk hc0
 have HA : za0 (∀ ad, A0 = some ad → 0 < l0.length → ad.block < w.heap.size) := ⟨fun ad e hp => by
  obtain ⟨x, hx⟩ : ∃ x, l0[0]? = some x := ⟨_, List.getElem?_eq_getElem hp⟩
  obtain ⟨ad', e', g0, _⟩ := node_at hr0 (Below.refl _ _) 0 x hx
  rw [e] at e'; cases e'
  have := World.block_lt_of_cell? w _ g0
  have hbl : (ad.add (0 * 6)).block = ad.block := by unfold Addr.add; split <;> rfl
  rw [hbl] at this; exact this⟩
 clear hr0 hc0
 have hmm := @run_makeMap Tryz.prog
 refine calls_of_wp_m Tryz.func47 rfl ?_
 simp only [Tryz.ntmps47, List.size_toArray, List.length_cons, List.length_nil, Nat.reduceAdd, Nat.reduceSub, Array.replicate_succ, Array.replicate_zero, List.push_toArray, List.append_toArray, List.nil_append, List.cons_append]
 go_wp2_with fail
 refine (BackwardNode.calls _ _ _ _).mono ?_
 rintro e w1 ⟨rfl, rfl⟩
 go_wp2_with fail
 have hM : MapLaw.MapIs (κ := Dot) (β := Nat) vDot vNat (((w.alloc (.map #[] 0)).alloc (.cells #[.map (some w.heap.size)] 106)).alloc (.cells #[.slice A0 l0.length c0] 22)) w.heap.size [] :=
  (MapLaw.MapIs.new w).below ((((Below.refl _ _).alloc (Nat.le_refl _) _).alloc (by simp) _))
 have hB : (((w.alloc (.map #[] 0)).alloc (.cells #[.map (some w.heap.size)] 106)).alloc (.cells #[.slice A0 l0.length c0] 22)).heap[w.heap.size + 1]? = some (.cells #[.map (some w.heap.size)] 106 (0, 0)) := by
  have := zaj (w.alloc (.map #[] 0)) (.cells #[.map (some w.heap.size)] 106)
  rw [World.size_alloc] at this
  exact za6 this _
 have hS : (((w.alloc (.map #[] 0)).alloc (.cells #[.map (some w.heap.size)] 106)).alloc (.cells #[.slice A0 l0.length c0] 22)).heap[w.heap.size + 2]? = some (.cells #[.slice A0 l0.length c0] 22 (0, 0)) := by
  have := zaj ((w.alloc (.map #[] 0)).alloc (.cells #[.map (some w.heap.size)] 106)) (.cells #[.slice A0 l0.length c0] 22)
  simpa [World.size_alloc] using this
 have hW : Below w.heap.size w (((w.alloc (.map #[] 0)).alloc (.cells #[.map (some w.heap.size)] 106)).alloc (.cells #[.slice A0 l0.length c0] 22)) :=
  za2 (za2 (za2 (Below.refl _ _) _) _) _
 have hsz : (((w.alloc (.map #[] 0)).alloc (.cells #[.map (some w.heap.size)] 106)).alloc (.cells #[.slice A0 l0.length c0] 22)).heap.size = w.heap.size + 3 := by simp
 generalize (((w.alloc (.map #[] 0)).alloc (.cells #[.map (some w.heap.size)] 106)).alloc (.cells #[.slice A0 l0.length c0] 22)) = W1 at *
 have HR1 := Kd.C_below HR.out hW
 refine wpIn_wide.1 (wpIn_rangeFunc_ownH (n := 9) (F := Fence.wide) rfl (by decide) (gf := 87) (lb := #[.pointer (some ⟨w.heap.size + 1 + 1, 0, none⟩)]) rfl trivial Tryz.call87
  (encs := fun x : Nat × Node => #[.int .i64 (x.1 : Int), vNode x.2]) (Kp := KpE W1.heap.size (fun i => i = w.heap.size)) (S := fun ys => ys = bk l0) (Sp := fun pre => pre <+: bk l0) (N := l0.length) (w0 := W1)
  (fun lp J Jx W hWW _ _ hY h0 => bkNode_in 8 lp (w.heap.size + 1 + 1) W1.heap.size (fun i => i = w.heap.size) A0 c0 l0 (by decide) hl J Jx hY W ((hWW.cell (p := ⟨w.heap.size + 1 + 1, 0, none⟩) (by show w.heap.size + 1 + 1 < _; omega)).trans ((za4 hS 0).trans rfl)) (by omega) (by show ¬ (w.heap.size + 1 + 1 = w.heap.size); omega) (fun ad e hp => by have := HA.out ad e hp; exact ⟨by omega, by show ¬ (ad.block = w.heap.size); omega⟩) (Kd.C_below HR1 hWW) h0)
  (fun h k => h.trans k) (fun W l o o' hl _ _ _ => KpE.put (Nat.le_refl _) W l o o' hl) (Below.refl _ _) (fun _ => rfl)
  (fun pre W => (MapLaw.MapIs vDot vNat W w.heap.size (atOf pre) ∧ W.heap[w.heap.size + 1]? = some (.cells #[.map (some w.heap.size)] 106 (0, 0))) ∧ (Below w.heap.size w W ∧ W1.heap.size ≤ W.heap.size))
  (fun _ _ _ => False)
  (OwnFrom.and (OwnFrom.and (MapLaw.MapIs.ownFrom (by omega)) blk_own) (OwnFrom.and (ownFrom_below (Nat.le_refl _) (by omega)) (fun _ _ _ _ hs hg _ => Nat.le_trans hs hg.size)))
  (fun _ _ _ _ _ hs _ _ => hs)
  ⟨⟨hM, hB⟩, hW, Nat.le_refl _⟩
  (fun x a' W => ∃ Bx, W1.heap.size ≤ Bx ∧ W.heap[Bx]? = some (.cells #[.int .i64 x.2.f0.f0, .int .i64 x.2.f0.f1, .int .i64 x.2.f1.f0, .int .i64 x.2.f1.f1, .int .i64 x.2.f2, .int .i32 x.2.f3] 42 (0, 0)) ∧ a' = { tmps := #[.slice A0 l0.length c0, undef, .slice none 0 0, .pointer (some ⟨w.heap.size + 1, 0, none⟩), .int .i64 (x.1 : Int), .pointer (some ⟨Bx, 0, none⟩), undef, undef, undef, .map (some w.heap.size), .slice A0 l0.length c0, .func (.func 87) #[] #[.pointer (some ⟨w.heap.size + 1 + 1, 0, none⟩)], .int .i64 (x.1 : Int), vNode x.2, undef, undef, undef, undef, undef, undef, undef, undef, undef, undef, undef, undef, undef, undef, undef, undef, undef, undef, undef, undef, undef, undef, undef], defers := [] })
  (fun x a' _ W W' row hs hg hr => by
   obtain ⟨Bx, h1, h2, h3⟩ := hs
   exact ⟨Bx, h1, (hg.block Bx (zae h2) (fun e => by obtain ⟨_, o, ho, hc⟩ := hr Bx e.symm; rw [h2] at ho; cases ho; cases hc)).trans h2, h3⟩)
  ?assign ?body ?done ?stop)
 case assign =>
  rintro l pre x W K ⟨⟨hi1, hi2⟩, hi3, hi4⟩ hK
  gi_wp2
  exact hK _ _ ((KeepsOthers.alloc _ _).from _) (KpE.below ((Below.refl _ W).alloc hi4 _)) ⟨⟨hi1.below (za2 (Below.refl _ _) _), za6 hi2 _⟩, hi3.alloc hi3.size _, by simp; omega⟩ ⟨W.heap.size, hi4, zaj _ _, rfl⟩
 case body =>
  rintro l pre x a' W hl2 ⟨rr, hrr⟩ ⟨⟨hi1, hi2⟩, hi3, hi4⟩ ⟨Bx, hx1, hx2, rfl⟩ hlt
  have hc0 : W.cell? ⟨w.heap.size + 1, 0, none⟩ = _ := (za4 hi2 0).trans rfl
  have hc1 : W.cell? ⟨Bx, 0, none⟩ = _ := (za4 hx2 0).trans rfl
  have hc2 : W.cell? ⟨Bx, 1, none⟩ = _ := (za4 hx2 1).trans rfl
  gi_wp2_with (gi_at_mapUpdate; refine MapLaw.wpListIn_update rfl _ _ _ _ rfl dotKey Tryz.underlying106 x.2.f0 x.1 rfl rfl rfl hi1 ?_; intro w2 hm2 hg2)
  exact ⟨KeepsFrom.of_grownBy hg2 (fun j e => by cases e; omega), KpE.grown hg2 (fun r e => by cases e; rfl) hi4, ⟨by rw [atOf_snoc]; exact hm2, (hg2.block _ (zae hi2) (by simp)).trans hi2⟩, hi3.grown hg2 hi3.size (fun k e => by cases e; exact Nat.le_refl _), Nat.le_trans hi4 hg2.size⟩
 case done =>
  rintro D ys W hD rfl ⟨⟨hi1, hi2⟩, hi3, hi4⟩ hK
  have HI1 := za0.mk hi1
  have HI2 := za0.mk hi2
  have HI3 := za0.mk hi3
  have HK := za0.mk hK
  have HS := za0.mk hsz
  clear hi1 hi2 hi3 hi4 hK hM hB hS hsz HR1
  have HMB := za0.mk (atOf_bk_lt l0)
  obtain ⟨m, Hm⟩ : ∃ m, za0 (atOf (bk l0) = m) := ⟨_, ⟨rfl⟩⟩
  rw [Hm.out] at HI1 HMB
  go_wp2
  go_loopw [6, 20] (fun v i wr => ∃ k : Nat, k ≤ l0.length ∧ i = .int .i64 k ∧ za0 (Kd.R k110 110 wr w.heap.size (fun _ => True) v (faultsUpto l0 m k)) ∧ za0 (MapLaw.MapIs vDot vNat wr w.heap.size m) ∧ za0 (wr.heap[w.heap.size + 1]? = some (.cells #[.map (some w.heap.size)] 106 (0, 0))) ∧ za0 (wr.heap[D]? = some (.deferred (some []))) ∧ za0 (Below w.heap.size w wr)) (fun _ i _ => l0.length - (intOf i).toNat)
  case atStart => exact ⟨0, Nat.zero_le _, rfl, ⟨Kd.R_nil _ _ _ _ _⟩, HI1, HI2, HK, HI3⟩
  case round =>
   obtain ⟨k, hk, rfl, HO, HI1, HI2, HK, HI3⟩ := hrel
   have hc0 : wr.cell? ⟨w.heap.size + 1, 0, none⟩ = _ := (za4 HI2.out 0).trans rfl
   by_cases hlt : k < l0.length
   ·
    obtain ⟨f, Hf⟩ : ∃ f, za0 (flawOf l0 m k = f) := ⟨_, ⟨rfl⟩⟩
    go_wp2_with fail
    refine (flaw.calls A0 c0 l0 w.heap.size m k wr (Kd.C_below HR.out HI3.out) HC.out hl HI1.out HMB.out hlt).mono ?_
    rintro e w2 ⟨rfl, hb2⟩
    rw [Hf.out]
    have HO2 := za0.mk (Kd.R_below HO.out hb2)
    have HI12 := za0.mk (HI1.out.below hb2)
    have HI22 := za0.mk (zab HI2.out hb2)
    have HK2 := za0.mk (zab HK.out hb2)
    have HI32 := za0.mk (za8 HI3.out hb2)
    clear HO HI1 HI2 HK HI3 hb2 hc0
    by_cases hf : f = 0
    ·
     have hfb : (f != 0) = false := bne_eq_false_iff_eq.mpr hf
     have HF0 : za0 (flawOf l0 m k = 0) := ⟨Hf.out.trans hf⟩
     clear hf
     go_wp2
     go_roundw
     case rel => exact ⟨k + 1, by omega, by go_num, ⟨by rw [faultsUpto_succ, if_pos HF0.out, List.append_nil]; exact HO2.out⟩, HI12, HI22, HK2, HI32⟩
     case measure => simp [intOf]; omega
    ·
     have hfb : (f != 0) = true := bne_iff_ne.mpr hf
     have HF0 : za0 (¬ flawOf l0 m k = 0) := ⟨fun h => hf (Hf.out.symm.trans h)⟩
     clear hf
     have hlen := faultsUpto_length l0 m k
     go_wp2_with (at_builtin; go_loud (refine Kd.R_append k110 (w0 := w) w.heap.size rfl (.tmp 29) (.tmp 33) 89 110 (.agg #[(.int .i64 0), (.int .i64 0)]) 16 rfl Tryz.underlying89 info110 rfl (by decide) (by omega) u6 (faultsUpto l0 m k) (⟨(k : Int), f⟩ : Fault) [.int .i64 (k : Int), .int .i64 f] (fun _ => True) (fun _ => False) rfl rfl ?aP (fun _ hk => hk.elim) ?aF ?aO ?aB ?aS ?aL ?_); (case aP => exact k110_mkM _ _ _ (⟨(k : Int), f⟩ : Fault)); (case aF => exact (fun _ _ => trivial)); (case aO => exact HO2.out); (case aB => exact HI32.out); (case aS => exact HI32.out.size); (case aL => omega); intro v2 w3 ho hb hg hat)
     have hn1 := R_apart_obj HO2.out HI22.out (fun cells h => by cases h)
     have hn2 := R_apart_obj HO2.out HK2.out (fun cells h => by cases h)
     have hn3 : some w.heap.size ≠ u6.ownBlock := by
      obtain ⟨es, cl, h1, _⟩ := HI12.out
      exact R_apart_obj HO2.out h1 (fun cells h => by cases h)
     go_roundw
     case rel => exact ⟨k + 1, by omega, by go_num, ⟨by rw [faultsUpto_succ, if_neg HF0.out, Hf.out]; exact ho⟩, ⟨HI12.out.same (hg.block _ HI12.out.lt hn3)⟩, ⟨(hg.block _ (zae HI22.out) hn1).trans HI22.out⟩, ⟨(hg.block _ (zae HK2.out) hn2).trans HK2.out⟩, ⟨hb⟩⟩
     case measure => simp [intOf]; omega
   ·
    obtain rfl : k = l0.length := by omega
    go_wp2
    refine ⟨by simp, .inl ⟨_, _, rfl, run_takeDeferred HK.out, ?_⟩⟩
    refine ⟨_, results_tmp rfl _ _ _, _, rfl, ?_, below_putObj HI3.out (by have := HS.out; omega) _⟩
    unfold faultsOf
    rw [Hm.out]
    exact R_putObj HO.out HK.out rfl _
 case stop =>
  rintro D c pre W _ _ h _
  exact h.elim
def shape_Faults.f (l0 : List Node) : Option (List Fault) := if l0.length ≤ 1000000 then some (faultsOf l0) else none
theorem shape_Faults.calls (A0 : Option Addr) (c0 : Nat) (l0 : List Node) (r : List Fault) (w : World) (hr0 : Kd.C k42 w A0 l0.length l0) (hc0 : l0.length ≤ c0) (h : shape_Faults.f l0 = some r) :
  Calls Tryz.prog 47 #[.slice A0 l0.length c0] w fun e w' => ∃ v0_ : Value, e = .returned (v0_) ∧ Kd.R k110 110 w' w.heap.size (fun _ => True) v0_ r ∧ Below w.heap.size w w' := by
 unfold shape_Faults.f at h
 by_cases hl : l0.length ≤ 1000000
 ·
  rw [if_pos hl] at h
  obtain rfl := Option.some.inj h
  exact Faults.walk A0 c0 l0 w hr0 hc0 hl
 ·
  rw [if_neg hl] at h; cases h
end
def shape_Well.f (l0 : List (S42)) : Option (Bool) := (shape_Faults.f l0).bind fun t129 => (some ((t129.length : Int) == 0))
set_option maxHeartbeats 8000000 in
set_option maxRecDepth 100000 in
theorem shape_Well.calls (A0 : Option Addr) (c0 : Nat) (l0 : List (S42)) (r : Bool) (w : World) (hr0 : Kd.C k42 w A0 l0.length l0) (hc0 : l0.length ≤ c0) (h : shape_Well.f l0 = some r) :
  Calls Tryz.prog 21 #[.slice A0 l0.length c0] w fun e w' => e = .returned (.bool r) ∧ Below w.heap.size w w' := by
 have HR0 := za0.mk hr0
 have HC0 := za0.mk hc0
 clear hr0 hc0
 have HB := za0.mk (Below.refl w.heap.size w)
 have H : ((shape_Faults.f l0).bind fun t129 => (some ((t129.length : Int) == 0))) = some r := h
 clear h
 replace H := Option.bind_eq_some_iff.mp H
 obtain ⟨t129, A20, H⟩ := H
 replace H : (some ((t129.length : Int) == 0)) = some r := H
 have A2 := za0.mk A20
 clear A20
 obtain rfl := Option.some.inj H
 go_enter Tryz.func21, Tryz.ntmps21
 go_wp2_with (first | ((with_reducible refine zam (f := 47) rfl ?_); refine goesL_ (some 4) rfl rfl Tryz.func47 (by kernel_rfl) rfl #[.slice A0 l0.length c0] rfl (by (try simp only [List.map_toArray, List.map_cons, List.map_nil]); first | done | rfl | (simp only [List.length_drop, List.length_take]; rfl)) ?_; (with_reducible refine (shape_Faults.calls _ _ l0 t129 _ ?side1 ?side2 A2.out).mono ?_); (case side1 => repeat (first | exact HR0.out | (with_reducible refine Kd.C_alloc ?_ _) | (with_reducible refine Kd.C_drewN ?_ _) | (with_reducible refine Kd.C_drew ?_))); (case side2 => exact HC0.out); rintro e w3 ⟨v130, rfl, ho0, hb⟩; refine ⟨_, rfl, ?_⟩; have n0_ := za0.mk (Kd.R_lower ho0 (zac (by repeat (first | (with_reducible first | exact HB.out | apply za2 | apply za1 | apply za3) | exact HB.out)))); have n1_ := za0.mk (zad (by repeat (first | (with_reducible first | exact HB.out | apply za2 | apply za1 | apply za3) | exact HB.out)) hb); clear HB; have HO131 := n0_; have HB := n1_; clear n0_ n1_; (try clear hb); (try clear hb2); (try clear hk); (try clear hi); (try clear ho0); obtain ⟨Ao4, co4, eo4⟩ := Kd.R_slice HO131.out; subst eo4))
 go_ret
 exact ⟨by first | rfl | (simp [zai, zah] <;> rfl) | (simp [*, zai, zah] <;> rfl), by repeat (first | (with_reducible first | exact HB.out | apply za2 | apply za1 | apply za3) | exact HB.out)⟩
end
end Go.Proofs.YtefejajofmpjdaaGreat.PWalk
end
section
namespace Go.Proofs.YtefejajofmpjdaaGreat.PWalk
open Go.RowKit Go.Proofs.YtefejajofmpjdaaGreatW.PrintWords Go.Proofs.YtefejajofmpjdaaGreatW.PrintLast Go.Proofs.YtefejajofmpjdaaGreatW.PrintMore
set_option linter.unusedVariables false
set_option linter.unusedSimpArgs false
open Go.Shelf
attribute [local go_sem] Oper.semAt_some
section
def zar (x : Node) : List Value := [.int .i64 x.f0.f0, .int .i64 x.f0.f1, .int .i64 x.f1.f0, .int .i64 x.f1.f1, .int .i64 x.f2, .int .i32 x.f3]
def cellsOf (l : List Node) : List Value := l.flatMap zar
theorem cellsOf_length (l : List Node) : (cellsOf l).length = l.length * 6 := by
 induction l with
 | nil => rfl
 | cons x l ih => rw [cellsOf, List.flatMap_cons, List.length_append, ← cellsOf, ih]; simp [zar]; omega
theorem cellsOf_append (l m : List Node) : cellsOf (l ++ m) = cellsOf l ++ cellsOf m := by simp [cellsOf]
theorem cellsOf_drop_take (l : List Node) (j : Nat) (x : Node) (h : l[j]? = some x) : ((cellsOf l).drop (j * 6)).take 6 = zar x := by
 induction l generalizing j with
 | nil => simp at h
 | cons y l ih =>
  cases j with
  | zero => simp at h; subst h; simp [cellsOf, zar]
  | succ j =>
   simp at h
   rw [show (j + 1) * 6 = 6 + j * 6 from by omega, cellsOf, List.flatMap_cons, ← cellsOf, ← List.drop_drop, List.drop_left' (by simp [zar])]
   exact ih j h
theorem reps_cells {R : Node → List Value → Prop} (l : List Node) (hR : ∀ x, R x (zar x)) : Reps R 6 l (cellsOf l) :=
 ⟨cellsOf_length l, fun j p hj => by rw [cellsOf_drop_take l j p hj]; exact hR p⟩
theorem cells_of_reps {R : Node → List Value → Prop} (l : List Node) (cs : List Value) (h : Reps R 6 l cs) (hR : ∀ x c, R x c → c = zar x) : cs = cellsOf l := by
 induction l generalizing cs with
 | nil => have := h.1; simp at this; subst this; rfl
 | cons x l ih =>
  obtain ⟨h1, h2⟩ := h
  have h0 := hR _ _ (h2 0 x rfl)
  simp only [Nat.zero_mul, List.drop_zero] at h0
  have ht : Reps R 6 l (cs.drop 6) := ⟨by rw [List.length_drop, h1]; simp; omega, fun j p hj => by
   have := h2 (j + 1) p (by simpa using hj)
   rw [List.drop_drop, show 6 + j * 6 = (j + 1) * 6 from by omega]; exact this⟩
  rw [cellsOf, List.flatMap_cons, ← cellsOf, ← ih _ ht, ← h0, List.take_append_drop]
theorem R_of_cells {w : World} {base : Nat} {ok : Nat → Prop} {v : Value} {l : List Node} (h : w.ownsRow base 42 6 v l.length (cellsOf l)) (hok : ∀ k, v.ownBlock = some k → ok k) : Kd.R k42 42 w base ok v l :=
 ⟨hok, cellsOf l, h, reps_cells l fun x => k42_mkM _ _ _ x⟩
theorem cells_of_R {w : World} {base : Nat} {ok : Nat → Prop} {v : Value} {l : List Node} (h : Kd.R k42 42 w base ok v l) : w.ownsRow base 42 6 v l.length (cellsOf l) := by
 obtain ⟨_, inner, ho, hr⟩ := h
 rw [← cells_of_reps l inner hr fun x c hx => k42_openM hx]
 exact ho
theorem one_cells (l : List Node) : ∀ u ∈ cellsOf l, u.oneCell' = true := by
 intro u hu
 unfold cellsOf at hu
 rw [List.mem_flatMap] at hu
 obtain ⟨x, _, hx⟩ := hu
 simp [zar] at hx
 rcases hx with rfl | rfl | rfl | rfl | rfl | rfl <;> rfl
theorem infoN : (Tryz.prog.info? 42).map (fun i => (i.zero, i.size, i.bytes)) = some (some (.agg #[(.int .i64 0), (.int .i64 0), (.int .i64 0), (.int .i64 0), (.int .i64 0), (.int .i32 0)]), 6, 48) := by kernel_rfl
section
variable {P : Program} {ops : Array Oper} {rest : List Oper} {o : Oper} {a : Act} {Q : Exit → Act → World → Prop}
end
theorem setRow_at {w : World} {g : Nat} {cur : Array Value} {t : TypeId} {fr : Nat × Nat} (h : w.heap[g]? = some (.cells cur t fr)) (cs : Array Value) : (w.setRow g cs).heap[g]? = some (.cells cs t fr) := by
 unfold World.setRow
 simp only [Array.getElem?_modify, if_true, h]
 rfl
theorem setRow_grown (w : World) (g : Nat) (cs : Array Value) : w.grownBy (w.setRow g cs) (some g) :=
 ⟨rfl, rfl, rfl, by simp, fun k hk hne => setRow_other w g k cs (fun e => hne (by rw [e]))⟩
theorem run_clear_row {P : Program} {t e : TypeId} {z : Value} (ht : P.underlying t = some (.slice e)) (hz : ∀ w, (zeroValue e).run P w = .ok z w) (h1 : ∀ u ∈ z.cells.toList, u.oneCell' = true) (ty : TypeId) (g off n c : Nat) (cur : Array Value) (te : TypeId) (w : World)
  (hg : w.heap[g]? = some (.cells cur te (0, 0))) (hn : 0 < n) (hfit : off + n * z.cells.size ≤ cur.size) :
  (Builtin.clear_ #[t] ty #[.slice (some ⟨g, off, none⟩) n c]).run P w = .ok (.tuple #[]) (w.setRow g (cur.toList.take off ++ (Builtin.zeroCells z.cells n).toList ++ cur.toList.drop (off + n * z.cells.size)).toArray) := by
 obtain ⟨m, rfl⟩ : ∃ m, n = m + 1 := ⟨n - 1, by omega⟩
 have hs := run_storeCells_at (P := P) g off te (Builtin.zeroCells z.cells (m + 1)).toList 0 cur w hg (by simp [size_zeroCells]; omega) (by
  intro v hv
  simp only [Builtin.zeroCells, Array.toList_map, List.mem_map] at hv
  obtain ⟨i, hi, rfl⟩ := hv
  rcases Nat.eq_zero_or_pos z.cells.size with h0 | h0
  ·
   simp [h0] at hi
  ·
   have hlt := Nat.mod_lt i h0
   rw [getElem!_pos z.cells (i % z.cells.size) hlt]
   exact h1 _ (by simp))
 have hlen : (Builtin.zeroCells z.cells (m + 1)).toList.length = (m + 1) * z.cells.size := by simp [size_zeroCells]
 rw [hlen] at hs
 simp only [Nat.add_zero] at hs
 unfold Builtin.clear_
 simp [run_underlying ht, hz, hs, Result.andThen]
end
end Go.Proofs.YtefejajofmpjdaaGreat.PWalk
end
