-- Made by a program (wip/pp/pp.py, over the kit's print.py) for this claim. Lean checks it.
import Derived.Test.YtjlpaagnajmogaaDoorPFormx0
import Derived.Test.YtjlpaagnajmogaaDoorPFormx1
import Derived.Test.YtjlpaagnajmogaaDoorPFormx4
import Derived.Test.YtjlpaagnajmogaaDoorPFormx5
namespace Go.Proofs.YtjlpaagnajmogaaDoor.PForm
open Go.RowKit Go.Proofs.YtjlpaagnajmogaaDoorW.PrintWords Go.Proofs.YtjlpaagnajmogaaDoorW.PrintLast Go.Proofs.YtjlpaagnajmogaaDoorW.PrintMore
attribute [local go_sem] max2_int min2_int max_two min_two max_three min_three max_four min_four   -- for this text's walks alone
set_option linter.unusedVariables false
set_option linter.unusedSimpArgs false

/-! ### shape_Faults: function 34 -/
section
open Go.Shelf
attribute [local go_sem] Oper.semAt_some
/-! ### pure words on dots and nodes -/
abbrev Dot := S35
abbrev Node := S37
abbrev vDot (x : Dot) : Value := .agg #[.int .i64 x.f0, .int .i64 x.f1]
abbrev vNode (x : Node) : Value := .agg #[.int .i64 x.f0.f0, .int .i64 x.f0.f1, .int .i64 x.f1.f0, .int .i64 x.f1.f1, .int .i64 x.f2, .int .i32 x.f3]
theorem Dot.ext' {a b : Dot} (h0 : a.f0 = b.f0) (h1 : a.f1 = b.f1) : a = b := by cases a; cases b; simp_all
theorem Dot.ext_iff' {a b : Dot} : a = b ↔ a.f0 = b.f0 ∧ a.f1 = b.f1 := ⟨fun h => by subst h; exact ⟨rfl, rfl⟩, fun h => Dot.ext' h.1 h.2⟩
instance : DecidableEq Dot := fun a b => decidable_of_iff (a.f0 = b.f0 ∧ a.f1 = b.f1) Dot.ext_iff'.symm
theorem Node.ext_iff' {a b : Node} : a = b ↔ a.f0 = b.f0 ∧ a.f1 = b.f1 ∧ a.f2 = b.f2 ∧ a.f3 = b.f3 := ⟨fun h => by subst h; exact ⟨rfl, rfl, rfl, rfl⟩, fun h => by cases a; cases b; simp_all⟩
instance : DecidableEq Node := fun a b => decidable_of_iff (a.f0 = b.f0 ∧ a.f1 = b.f1 ∧ a.f2 = b.f2 ∧ a.f3 = b.f3) Node.ext_iff'.symm
/-- A dot of a node; the root's; a rune of a text; a node that is allowed. -/
def dotOk (d : Dot) : Bool := decide (1 ≤ d.f0 ∧ d.f0 ≤ 64 ∧ 1 ≤ d.f1 ∧ d.f1 ≤ 4294967295)
def dotRoot (d : Dot) : Bool := decide (d.f0 = 0 ∧ d.f1 = 0)
def runeOk (r : Int) : Bool := decide (r ≠ 0 ∧ ((0 ≤ r ∧ r < 55296) ∨ (57343 < r ∧ r ≤ 1114111)))
def nodeOk (x : Node) : Bool := decide (dotOk x.f0 = true ∧ (dotRoot x.f1 = true ∨ dotOk x.f1 = true) ∧ x.f1 ≠ x.f0 ∧ 1 ≤ x.f2 ∧ x.f2 ≤ 4611686018427387904 ∧ (x.f3 = 0 ∨ runeOk x.f3 = true))
/-- Before another dot; increasing. -/
def dotLt (a b : Dot) : Bool := decide (a.f1 < b.f1 ∨ (a.f1 = b.f1 ∧ a.f0 < b.f0))
def dotCmp (a b : Dot) : Int := if dotLt a b then -1 else if dotLt b a then 1 else 0
def incB : List Dot → Bool
  | [] => true
  | [_] => true
  | a :: b :: r => dotLt a b && incB (b :: r)
def storeOk (l : List Node) : Bool := l.all nodeOk && incB (l.map (·.f0))
theorem dotCmp_ge (a b : Dot) : (dotCmp a b ≥ 0) ↔ ¬ dotLt a b = true := by
  unfold dotCmp
  by_cases h : dotLt a b = true
  · simp [h]
  · rw [if_neg h]
    constructor
    · exact fun _ => h
    · intro _; split <;> decide
theorem dotLt_irrefl (a : Dot) : dotLt a a = false := by unfold dotLt; simp
theorem dotLt_trans {a b c : Dot} (h : dotLt a b = true) (k : dotLt b c = true) : dotLt a c = true := by
  unfold dotLt at *; simp only [decide_eq_true_eq] at *; omega
theorem dotLt_asymm {a b : Dot} (h : dotLt a b = true) : dotLt b a = false := by
  unfold dotLt at *; simp only [decide_eq_true_eq, decide_eq_false_iff_not] at *; omega
theorem dotLt_total {a b : Dot} (h : dotLt a b = false) (k : dotLt b a = false) : a = b := by
  unfold dotLt at *; simp only [decide_eq_false_iff_not] at *; exact Dot.ext' (by omega) (by omega)
theorem blk_new (w : World) (o : Obj) : (w.alloc o).heap[w.heap.size]? = some o := by
  show (w.heap.push o)[w.heap.size]? = some o
  simp
theorem blk_keep {W W' : World} {g : Nat} {o : Obj} (h : W.heap[g]? = some o) (hb : Below W.heap.size W W') : W'.heap[g]? = some o := (hb.block g (blk_lt h)).trans h
theorem below_more {w W W' : World} (h : Below w.heap.size w W) (k : Below W.heap.size W W') : Below w.heap.size w W' := below_then h h.size k
/-! ### what the printed functions come to -/
theorem validRune_is (k : Nat) (r : Int) : utf8_ValidRune.f (k + 1) r = some (decide ((0 ≤ r ∧ r < 55296) ∨ (57343 < r ∧ r ≤ 1114111))) := by
  unfold utf8_ValidRune.f utf8_ValidRune.j0
  by_cases h0 : 0 ≤ r <;> by_cases h1 : r < 55296 <;> by_cases h2 : 57343 < r <;> by_cases h3 : r ≤ 1114111 <;> simp [h0, h1, h2, h3] <;> omega
theorem runesValid_is (k : Nat) (r : Int) : runes_Valid.f (k + 1) r = some (runeOk r) := by
  unfold runes_Valid.f runeOk
  rw [validRune_is]
  by_cases h : r = 0 <;> simp [h]
theorem dotValid_is (a b : Int) : dot_Valid.f a b = some (dotOk ⟨a, b⟩) := by
  unfold dot_Valid.f dotOk
  by_cases h0 : a ≥ 1 <;> by_cases h1 : a ≤ 64 <;> by_cases h2 : b ≥ 1 <;> by_cases h3 : b ≤ 4294967295 <;> simp [h0, h1, h2, h3] <;> omega
theorem dotRoot_is (a b : Int) : dot_Root.f a b = some (dotRoot ⟨a, b⟩) := by
  unfold dot_Root.f dotRoot
  by_cases h0 : a = 0 <;> by_cases h1 : b = 0 <;> simp [h0, h1]
theorem nodeValid_is (k : Nat) (x : Node) : node_Valid.f (k + 1) x.f0.f0 x.f0.f1 x.f1.f0 x.f1.f1 x.f2 x.f3 = some (nodeOk x) := by
  unfold node_Valid.f nodeOk
  simp only [dotValid_is, dotRoot_is, runesValid_is, node_Dead.f, Option.bind_some]
  have e : ((!(x.f1.f0 == x.f0.f0) || !(x.f1.f1 == x.f0.f1)) = true) ↔ x.f1 ≠ x.f0 := by
    rw [Ne, Dot.ext_iff']; simp; omega
  simp only [e]
  have e1 : x.f2 ≥ 1 ↔ 1 ≤ x.f2 := Iff.rfl
  by_cases h1 : dotOk x.f0 = true
  · by_cases h4 : x.f1 ≠ x.f0
    · by_cases h5 : 1 ≤ x.f2
      · by_cases h6 : x.f2 ≤ 4611686018427387904
        · cases h2 : dotRoot x.f1 <;> cases h3 : dotOk x.f1 <;> cases h8 : runeOk x.f3 <;> by_cases h7 : x.f3 = 0 <;> simp [h1, h2, h3, h4, h5, h6, h7, h8]
        · cases h2 : dotRoot x.f1 <;> cases h3 : dotOk x.f1 <;> simp [h1, h2, h3, h4, h5, h6]
      · cases h2 : dotRoot x.f1 <;> cases h3 : dotOk x.f1 <;> simp [h1, h2, h3, h4, h5]
    · cases h2 : dotRoot x.f1 <;> cases h3 : dotOk x.f1 <;> simp [h1, h2, h3, h4]
  · simp [h1]
theorem cmpCompare_is (a b : Int) : cmp_Compare_int.f a b = some (if a < b then -1 else if b < a then 1 else 0) := by
  unfold cmp_Compare_int.f cmp_isNaN_int.f
  simp
  split
  · rfl
  · split <;> rfl
theorem dotCompare_is (k : Nat) (a b : Dot) : dot_Compare.f (k + 3) a.f0 a.f1 b.f0 b.f1 = some (dotCmp a b) := by
  unfold dot_Compare.f
  simp only [cmpCompare_is, Option.bind_some]
  unfold cmp_Or_int.f dotCmp dotLt
  have w1 : wrap64 1 = 1 := by unfold wrap64; omega
  have w2 : wrap64 (1 + 1) = 2 := by unfold wrap64; omega
  have w3 : wrap64 2 = 2 := by unfold wrap64; omega
  rcases Int.lt_trichotomy a.f1 b.f1 with h | h | h
  · have h' : ¬ b.f1 < a.f1 := by omega
    simp [h, cmp_Or_int.l0, rd]
  · rcases Int.lt_trichotomy a.f0 b.f0 with g | g | g
    · simp [h, g, cmp_Or_int.l0, rd, w1]
    · simp [h, g, cmp_Or_int.l0, rd, w1, w2, w3]
    · have g' : ¬ a.f0 < b.f0 := by omega
      simp [h, g, g', cmp_Or_int.l0, rd, w1]
  · have h' : ¬ a.f1 < b.f1 := by omega
    have h2 : ¬ a.f1 = b.f1 := by omega
    have h3 : ¬ b.f1 = a.f1 := by omega
    simp [h, h', h2, h3, cmp_Or_int.l0, rd]
theorem wrap_one {i : Int} {n : Nat} (h0 : -1 ≤ i) (h : i < (n : Int)) (hn : n ≤ 9223372036854775806) : wrap64 (i + 1) = i + 1 := by
  unfold wrap64; omega
theorem wrap_pred {i : Int} (h0 : 0 ≤ i) (h : i ≤ 9223372036854775806) : wrap64 (i - 1) = i - 1 := by
  unfold wrap64; omega
/-! ### slices.IndexFunc, ContainsFunc at nodes, by the predicate's contract -/
theorem node_at {w wr : World} {A : Option Addr} {n : Nat} {xs : List Node} (h : Kd.C k37 w A n xs) (hb : Below w.heap.size w wr) (k : Nat) (x : Node) (hk : xs[k]? = some x) :
    ∃ ad, A = some ad ∧ wr.cell? (ad.add (k * 6)) = some (.int .i64 x.f0.f0) ∧ wr.cell? ⟨(ad.add (k * 6)).block, (ad.add (k * 6)).off + 1, none⟩ = some (.int .i64 x.f0.f1) ∧ wr.cell? ⟨(ad.add (k * 6)).block, (ad.add (k * 6)).off + 2, none⟩ = some (.int .i64 x.f1.f0) ∧ wr.cell? ⟨(ad.add (k * 6)).block, (ad.add (k * 6)).off + 3, none⟩ = some (.int .i64 x.f1.f1) ∧ wr.cell? ⟨(ad.add (k * 6)).block, (ad.add (k * 6)).off + 4, none⟩ = some (.int .i64 x.f2) ∧ wr.cell? ⟨(ad.add (k * 6)).block, (ad.add (k * 6)).off + 5, none⟩ = some (.int .i32 x.f3) := by
  have hl := Kd.C_len h
  have hlt := (List.getElem?_eq_some_iff.1 hk).1
  obtain ⟨ad, e, h0, h1, h2, h3, h4, h5⟩ := at_T37 h (k : Int) (by omega) (by omega)
  have hd : rd_T37 xs (k : Int) = x := by simp [rd_T37, hk]
  rw [hd] at h0 h1 h2 h3 h4 h5
  simp only [Int.toNat_natCast] at h0 h1 h2 h3 h4 h5
  exact ⟨ad, e, pw_cell_below hb h0, pw_cell_below hb h1, pw_cell_below hb h2, pw_cell_below hb h3, pw_cell_below hb h4, pw_cell_below hb h5⟩
def idxFrom (p : Node → Bool) (l : List Node) : Int := match l.findIdx? p with | some i => (i : Int) | none => -1
theorem idxFrom_at {p : Node → Bool} {l : List Node} {k : Nat} {x : Node} (hk : l[k]? = some x) (hx : p x = true) (hno : ∀ j y, j < k → l[j]? = some y → p y = false) : idxFrom p l = k := by
  unfold idxFrom
  rw [List.findIdx?_eq_some_iff_getElem.2 ⟨(List.getElem?_eq_some_iff.1 hk).1, by rw [(List.getElem?_eq_some_iff.1 hk).2]; exact hx, fun j hj => by rw [hno j _ hj (List.getElem?_eq_getElem _)]; simp⟩]
theorem idxFrom_none {p : Node → Bool} {l : List Node} (hno : ∀ j y, j < l.length → l[j]? = some y → p y = false) : idxFrom p l = -1 := by
  unfold idxFrom
  rw [List.findIdx?_eq_none_iff.2 fun x hx => by
    obtain ⟨j, hj⟩ := List.getElem?_of_mem hx
    exact hno j x (List.getElem?_eq_some_iff.1 hj).1 hj]
theorem no_step {p : Node → Bool} {l : List Node} {k : Nat} {x : Node} (hk : l[k]? = some x) (hx : p x = false) (hno : ∀ j y, j < k → l[j]? = some y → p y = false) : ∀ j y, j < k + 1 → l[j]? = some y → p y = false := by
  intro j y hj hy
  rcases Nat.lt_succ_iff_lt_or_eq.1 hj with h | h
  · exact hno j y h hy
  · subst h; rw [hk] at hy; cases hy; exact hx
set_option maxHeartbeats 400000 in
theorem IndexFuncNode.calls (p : Node → Bool) (fn : Nat) (caps : Array Value) (A0 : Option Addr) (c0 : Nat) (l0 : List Node) (w : World) (hr0 : Kd.C k37 w A0 l0.length l0) (hc0 : l0.length ≤ c0)
    (hcall : ∀ args W, (callFunc fn args).run Tryd.prog W = .ok (.enter fn args) W)
    (hp : ∀ x W, Below w.heap.size w W → Calls Tryd.prog fn (#[vNode x] ++ caps) W fun e W' => e = .returned (.bool (p x)) ∧ Below W.heap.size W W') :
    Calls Tryd.prog 69 #[.slice A0 l0.length c0, .func (.func fn) #[] caps] w fun e w' => e = .returned (.int .i64 (idxFrom p l0)) ∧ Below w.heap.size w w' := by
  have hm := Kd.C_max hr0
  have hu := Tryd.underlying37
  have HR := Aside0.mk hr0
  have HP := Aside0.mk hp
  have HC := Aside0.mk hc0
  clear hr0 hp hc0
  go_enter Tryd.func69, Tryd.ntmps69
  go_wp2
  go_loopw [5, 8] (fun _ i wr => ∃ k : Nat, k ≤ l0.length ∧ i = .int .i64 k ∧ Aside0 (∀ j y, j < k → l0[j]? = some y → p y = false) ∧ Aside0 (Below w.heap.size w wr)) (fun _ i _ => l0.length - (intOf i).toNat)
  case atStart => exact ⟨0, Nat.zero_le _, rfl, ⟨fun j y hj => absurd hj (Nat.not_lt_zero _)⟩, ⟨Below.refl _ _⟩⟩
  case round =>
    obtain ⟨k, hk, rfl, hno, hb⟩ := hrel
    by_cases hlt : k < l0.length
    · obtain ⟨x, hx⟩ : ∃ x, Aside0 (l0[k]? = some x) := ⟨_, ⟨List.getElem?_eq_getElem hlt⟩⟩
      obtain ⟨ad, e, h0, h1, h2, h3, h4, h5⟩ := node_at HR.out hb.out k x hx.out
      subst e
      cases hpx : p x with
      | true =>
        have HX := Aside0.mk hpx
        clear hpx
        go_wp2
        refine (HP.out x _ hb.out).mono ?_
        rintro e W' ⟨rfl, hb2⟩
        rw [HX.out]
        go_wp2
        go_ret
        exact ⟨by rw [idxFrom_at hx.out HX.out hno.out]; rfl, below_then hb.out hb.out.size hb2⟩
      | false =>
        have HX := Aside0.mk hpx
        clear hpx
        go_wp2
        refine (HP.out x _ hb.out).mono ?_
        rintro e W' ⟨rfl, hb2⟩
        rw [HX.out]
        go_wp2
        go_roundw
        case rel => exact ⟨k + 1, by omega, by go_num, ⟨no_step hx.out HX.out hno.out⟩, ⟨below_then hb.out hb.out.size hb2⟩⟩
        case measure => simp [intOf]; omega
    · go_wp2
      go_ret
      obtain rfl : k = l0.length := by omega
      exact ⟨by rw [idxFrom_none hno.out]; rfl, hb.out⟩
set_option maxHeartbeats 400000 in
theorem ContainsFuncNode.calls (p : Node → Bool) (fn : Nat) (caps : Array Value) (A0 : Option Addr) (c0 : Nat) (l0 : List Node) (w : World) (hr0 : Kd.C k37 w A0 l0.length l0) (hc0 : l0.length ≤ c0)
    (hcall : ∀ args W, (callFunc fn args).run Tryd.prog W = .ok (.enter fn args) W)
    (hp : ∀ x W, Below w.heap.size w W → Calls Tryd.prog fn (#[vNode x] ++ caps) W fun e W' => e = .returned (.bool (p x)) ∧ Below W.heap.size W W') :
    Calls Tryd.prog 44 #[.slice A0 l0.length c0, .func (.func fn) #[] caps] w fun e w' => e = .returned (.bool (l0.any p)) ∧ Below w.heap.size w w' := by
  have HI := Aside0.mk (IndexFuncNode.calls p fn caps A0 c0 l0 w hr0 hc0 hcall hp)
  clear hr0 hc0 hp hcall
  go_enter Tryd.func44, Tryd.ntmps44
  go_wp2_with fail
  refine HI.out.mono ?_
  rintro e W' ⟨rfl, hb⟩
  have hi : decide (idxFrom p l0 ≥ 0) = l0.any p := by
    unfold idxFrom
    cases h : l0.findIdx? p with
    | none => simp [List.findIdx?_eq_none_iff] at h; simp; exact h
    | some i => simp; exact ⟨_, List.getElem_mem (List.findIdx?_eq_some_iff_getElem.1 h).1, (List.findIdx?_eq_some_iff_getElem.1 h).2.1⟩
  have HI2 := Aside0.mk hi
  clear hi
  go_wp2
  go_ret
  exact ⟨by rw [← HI2.out]; rfl, hb⟩
/-! ### shape.flaw -/
set_option maxRecDepth 100000 in
theorem dotKey : MapLaw.MKey (κ := Dot) Tryd.prog 35 vDot where
  check := fun b x w => by
    unfold Instr.checkKey
    go_simp
    rfl
  equal := fun x y w => by
    unfold Op.equal Op.maxDepth
    rw [eqA35]
    congr 1
    rw [Bool.eq_iff_iff]
    simp [Dot.ext_iff']
  desc := ⟨_, Tryd.underlying35, .inl fun x y => rfl⟩
  bits := fun x => by simp [Instr.sameBits]
abbrev vNat (n : Nat) : Value := .int .i64 n
def flawOf (l : List Node) (m : List (Dot × Nat)) (i : Nat) : Int :=
  match l[i]? with
  | none => 0
  | some x =>
    if nodeOk x = false then 1
    else if 0 < i ∧ (match l[i - 1]? with | some p => dotLt p.f0 x.f0 | none => true) = false then 2
    else if dotRoot x.f1 = true then 0
    else match MapLaw.mget m x.f1 with
      | none => 3
      | some k => if (match l[k]? with | some p => decide (x.f2 ≤ p.f2) | none => false) = true then 4 else 0
theorem flawOf_at {l : List Node} {m : List (Dot × Nat)} {i : Nat} {x : Node} (hx : l[i]? = some x) : flawOf l m i =
    (if nodeOk x = false then 1
    else if 0 < i ∧ (match l[i - 1]? with | some p => dotLt p.f0 x.f0 | none => true) = false then 2
    else if dotRoot x.f1 = true then 0
    else match MapLaw.mget m x.f1 with
      | none => 3
      | some k => if (match l[k]? with | some p => decide (x.f2 ≤ p.f2) | none => false) = true then 4 else 0) := by
  unfold flawOf; rw [hx]
set_option maxHeartbeats 1000000 in
set_option maxRecDepth 100000 in
theorem flaw.calls (A0 : Option Addr) (c0 : Nat) (l0 : List Node) (b : Nat) (m : List (Dot × Nat)) (i : Nat) (w : World) (hr0 : Kd.C k37 w A0 l0.length l0) (hc0 : l0.length ≤ c0)
    (hl : l0.length ≤ 1000000) (hm : MapLaw.MapIs vDot vNat w b m) (hb : ∀ d k, MapLaw.mget m d = some k → k < l0.length) (hi : i < l0.length) :
    Calls Tryd.prog 63 #[.slice A0 l0.length c0, .map (some b), .int .i64 i] w fun e w' => e = .returned (.int .i64 (flawOf l0 m i)) ∧ Below w.heap.size w w' := by
  obtain ⟨x, hx⟩ : ∃ x, Aside0 (l0[i]? = some x) := ⟨_, ⟨List.getElem?_eq_getElem hi⟩⟩
  obtain ⟨ad, e, h0, h1, h2, h3, h4, h5⟩ := node_at hr0 (Below.refl _ _) i x hx.out
  subst e
  have HR := Aside0.mk hr0
  have HC := Aside0.mk hc0
  have HM := Aside0.mk hm
  have HB := Aside0.mk hb
  have HF := Aside0.mk (flawOf_at (m := m) hx.out)
  clear hr0 hc0 hm hb
  obtain ⟨q, is, HV, HI⟩ : ∃ (q : Nat) (is : Bool), Aside0 (((MapLaw.mget m x.f1).map vNat).getD (.int .i64 0) = vNat q) ∧ Aside0 ((MapLaw.mget m x.f1).isSome = is ∧ (is = true → MapLaw.mget m x.f1 = some q)) := by
    cases h : MapLaw.mget m x.f1 with
    | none => exact ⟨0, false, ⟨rfl⟩, ⟨rfl, by simp⟩⟩
    | some q => exact ⟨q, true, ⟨rfl⟩, ⟨rfl, fun _ => rfl⟩⟩
  have hu1 := Tryd.underlying35
  have hu2 := Tryd.underlying37
  go_enter Tryd.func63, Tryd.ntmps63
  go_wp2_with (first | (at_lookup; refine MapLaw.wpList_lookup rfl _ _ _ true rfl dotKey Tryd.underlying89 (z := .int .i64 0) Tryd.zeroValue2 x.f1 rfl rfl (HM.out.below ((Below.refl _ _).alloc (Nat.le_refl _) _)) HV.out HI.out.1 ?_) | fail)
  refine (dot_Root.calls _ _ _ _ (dotRoot_is _ _)).mono ?_
  rintro e W1 ⟨rfl, hd1⟩
  have BK1 := Aside0.mk (blk_keep (blk_new w _) hd1)
  have HW1 := Aside0.mk (below_more (below_alloc (Below.refl w.heap.size w) _) hd1)
  clear hd1 h0 h1 h2 h3 h4 h5
  obtain ⟨rt, HRT⟩ : ∃ rt, Aside0 (dotRoot x.f1 = rt) := ⟨_, ⟨rfl⟩⟩
  rw [show dotRoot ⟨x.f1.f0, x.f1.f1⟩ = rt from HRT.out]
  have hc0 : W1.cell? ⟨w.heap.size, 0, none⟩ = _ := (blk_cell BK1.out 0).trans rfl
  have hc1 : W1.cell? ⟨w.heap.size, 1, none⟩ = _ := (blk_cell BK1.out 1).trans rfl
  have hc2 : W1.cell? ⟨w.heap.size, 2, none⟩ = _ := (blk_cell BK1.out 2).trans rfl
  have hc3 : W1.cell? ⟨w.heap.size, 3, none⟩ = _ := (blk_cell BK1.out 3).trans rfl
  have hc4 : W1.cell? ⟨w.heap.size, 4, none⟩ = _ := (blk_cell BK1.out 4).trans rfl
  have hc5 : W1.cell? ⟨w.heap.size, 5, none⟩ = _ := (blk_cell BK1.out 5).trans rfl
  go_wp2_with fail
  refine (node_Valid.calls 1 _ _ _ _ _ _ _ _ (nodeValid_is 0 x)).mono ?_
  rintro e W2 ⟨rfl, hd2⟩
  have BK2 := Aside0.mk (blk_keep BK1.out hd2)
  have HW2 := Aside0.mk (below_more HW1.out hd2)
  clear hd2 hc0 hc1 hc2 hc3 hc4 hc5
  cases hok : nodeOk x with
  | false =>
    have HOK := Aside0.mk hok
    clear hok
    go_wp2
    go_ret
    exact ⟨by rw [HF.out, if_pos HOK.out]; rfl, HW2.out⟩
  | true =>
    have HOK := Aside0.mk hok
    clear hok
    have hc0 : W2.cell? ⟨w.heap.size, 0, none⟩ = _ := (blk_cell BK2.out 0).trans rfl
    have hc1 : W2.cell? ⟨w.heap.size, 1, none⟩ = _ := (blk_cell BK2.out 1).trans rfl
    have hc2 : W2.cell? ⟨w.heap.size, 2, none⟩ = _ := (blk_cell BK2.out 2).trans rfl
    have hc3 : W2.cell? ⟨w.heap.size, 3, none⟩ = _ := (blk_cell BK2.out 3).trans rfl
    have hc4 : W2.cell? ⟨w.heap.size, 4, none⟩ = _ := (blk_cell BK2.out 4).trans rfl
    have hc5 : W2.cell? ⟨w.heap.size, 5, none⟩ = _ := (blk_cell BK2.out 5).trans rfl
    by_cases h0 : 0 < i
    · obtain ⟨p, hp⟩ : ∃ p, Aside0 (l0[i - 1]? = some p) := ⟨_, ⟨List.getElem?_eq_getElem (by omega)⟩⟩
      obtain ⟨ad2, e2, g0, g1, g2, g3, g4, g5⟩ := node_at HR.out HW2.out (i - 1) p hp.out
      cases e2
      have hb0 : decide ((i : Int) > 0) = true := by simp; omega
      have hb2 : i - 1 < l0.length := by omega
      have hb1 : IntKind.i64.wrap ((i : Int) - 1) = ((i - 1 : Nat) : Int) := by rw [IntWalk.i64_in _ (by omega)]; omega
      go_wp2_with fail
      go_still_tail 11, (by kernel_rfl)
      change wpList _ _ _ _ _ W2.drew
      go_wp2_with fail
      refine (dot_Compare.calls 3 _ _ _ _ _ _ (dotCompare_is 0 p.f0 x.f0)).mono ?_
      rintro e W3 ⟨rfl, hd3⟩
      have BK3 := Aside0.mk (blk_keep (blk_drew BK2.out) hd3)
      have HW3 := Aside0.mk (below_more HW2.out.drew hd3)
      clear hd3 hc0 hc1 hc2 hc3 hc4 hc5 g0 g1 g2 g3 g4 g5 hb1
      cases hlt : dotLt p.f0 x.f0 with
      | false =>
        have hge : decide (dotCmp p.f0 x.f0 ≥ 0) = true := decide_eq_true ((dotCmp_ge _ _).2 (by simp [hlt]))
        have HLT := Aside0.mk hlt
        clear hlt
        go_wp2
        go_ret
        exact ⟨by rw [HF.out, if_neg (by rw [HOK.out]; simp), if_pos ⟨h0, by rw [hp.out]; exact HLT.out⟩]; rfl, (by repeat (first | exact HW3.out | apply pw_below_drewN))⟩
      | true =>
        have hge : decide (dotCmp p.f0 x.f0 ≥ 0) = false := decide_eq_false (fun h => (dotCmp_ge _ _).1 h hlt)
        have NOTLT : Aside0 (¬ (0 < i ∧ (match l0[i - 1]? with | some p => dotLt p.f0 x.f0 | none => true) = false)) := ⟨by rw [hp.out]; simp [hlt]⟩
        clear hlt
        have hc0 : W3.cell? ⟨w.heap.size, 0, none⟩ = _ := (blk_cell BK3.out 0).trans rfl
        have hc4 : W3.cell? ⟨w.heap.size, 4, none⟩ = _ := (blk_cell BK3.out 4).trans rfl
        cases hrt : rt with
        | true =>
          have HRT2 : Aside0 (dotRoot x.f1 = true) := ⟨HRT.out.trans hrt⟩
          subst hrt
          go_wp2
          go_quiet (fail)
          go_wp2
          go_ret
          exact ⟨by rw [HF.out, if_neg (by rw [HOK.out]; simp), if_neg NOTLT.out, if_pos HRT2.out]; rfl, (by repeat (first | exact HW3.out | apply pw_below_drewN))⟩
        | false =>
          have HRT2 : Aside0 (¬ dotRoot x.f1 = true) := ⟨by rw [HRT.out, hrt]; simp⟩
          subst hrt
          cases his : is with
          | false =>
            have HNO : Aside0 (MapLaw.mget m x.f1 = none) := ⟨by have := HI.out.1; rw [his] at this; simpa using this⟩
            subst his
            go_wp2
            go_ret
            exact ⟨by rw [HF.out, if_neg (by rw [HOK.out]; simp), if_neg NOTLT.out, if_neg HRT2.out, HNO.out]; rfl, (by repeat (first | exact HW3.out | apply pw_below_drewN))⟩
          | true =>
            have HG : Aside0 (MapLaw.mget m x.f1 = some q) := ⟨HI.out.2 his⟩
            subst his
            have hq := HB.out _ _ HG.out
            obtain ⟨y, hy⟩ : ∃ y, Aside0 (l0[q]? = some y) := ⟨_, ⟨List.getElem?_eq_getElem hq⟩⟩
            obtain ⟨ad3, e3, f0, f1, f2, f3, f4, f5⟩ := node_at HR.out HW3.out q y hy.out
            cases e3
            cases hcmp : decide (y.f2 ≥ x.f2) with
            | true =>
              have HC2 := Aside0.mk hcmp
              go_wp2
              go_quiet (fail)
              go_wp2
              go_ret
              exact ⟨by rw [HF.out, if_neg (by rw [HOK.out]; simp), if_neg NOTLT.out, if_neg HRT2.out, HG.out]; simp only [hy.out]; rw [if_pos (by simpa using HC2.out)]; rfl, (by repeat (first | exact HW3.out | apply pw_below_drewN))⟩
            | false =>
              have HC2 := Aside0.mk hcmp
              go_wp2
              go_quiet (fail)
              go_wp2
              go_ret
              exact ⟨by rw [HF.out, if_neg (by rw [HOK.out]; simp), if_neg NOTLT.out, if_neg HRT2.out, HG.out]; simp only [hy.out]; rw [if_neg (by simpa using HC2.out)]; rfl, (by repeat (first | exact HW3.out | apply pw_below_drewN))⟩

    · have hb0 : decide ((i : Int) > 0) = false := by simp; omega
      have NOTLT : Aside0 (¬ (0 < i ∧ (match l0[i - 1]? with | some p => dotLt p.f0 x.f0 | none => true) = false)) := ⟨fun h => h0 h.1⟩
      go_wp2_with fail
      go_quiet (fail)
      cases hrt : rt with
      | true =>
        have HRT2 : Aside0 (dotRoot x.f1 = true) := ⟨HRT.out.trans hrt⟩
        subst hrt
        go_wp2
        go_quiet (fail)
        go_wp2
        go_ret
        exact ⟨by rw [HF.out, if_neg (by rw [HOK.out]; simp), if_neg NOTLT.out, if_pos HRT2.out]; rfl, (by repeat (first | exact HW2.out | apply pw_below_drewN))⟩
      | false =>
        have HRT2 : Aside0 (¬ dotRoot x.f1 = true) := ⟨by rw [HRT.out, hrt]; simp⟩
        subst hrt
        cases his : is with
        | false =>
          have HNO : Aside0 (MapLaw.mget m x.f1 = none) := ⟨by have := HI.out.1; rw [his] at this; simpa using this⟩
          subst his
          go_wp2
          go_ret
          exact ⟨by rw [HF.out, if_neg (by rw [HOK.out]; simp), if_neg NOTLT.out, if_neg HRT2.out, HNO.out]; rfl, (by repeat (first | exact HW2.out | apply pw_below_drewN))⟩
        | true =>
          have HG : Aside0 (MapLaw.mget m x.f1 = some q) := ⟨HI.out.2 his⟩
          subst his
          have hq := HB.out _ _ HG.out
          obtain ⟨y, hy⟩ : ∃ y, Aside0 (l0[q]? = some y) := ⟨_, ⟨List.getElem?_eq_getElem hq⟩⟩
          obtain ⟨ad3, e3, f0, f1, f2, f3, f4, f5⟩ := node_at HR.out HW2.out q y hy.out
          cases e3
          cases hcmp : decide (y.f2 ≥ x.f2) with
          | true =>
            have HC2 := Aside0.mk hcmp
            go_wp2
            go_quiet (fail)
            go_wp2
            go_ret
            exact ⟨by rw [HF.out, if_neg (by rw [HOK.out]; simp), if_neg NOTLT.out, if_neg HRT2.out, HG.out]; simp only [hy.out]; rw [if_pos (by simpa using HC2.out)]; rfl, (by repeat (first | exact HW2.out | apply pw_below_drewN))⟩
          | false =>
            have HC2 := Aside0.mk hcmp
            go_wp2
            go_quiet (fail)
            go_wp2
            go_ret
            exact ⟨by rw [HF.out, if_neg (by rw [HOK.out]; simp), if_neg NOTLT.out, if_neg HRT2.out, HG.out]; simp only [hy.out]; rw [if_neg (by simpa using HC2.out)]; rfl, (by repeat (first | exact HW2.out | apply pw_below_drewN))⟩
/-! ### ranges over slices.Backward -/
/-- Blocks below n are as they were, but for those of E. -/
def KpE (n : Nat) (E : Nat → Prop) (W W' : World) : Prop := W.heap.size ≤ W'.heap.size ∧ ∀ i, i < n → ¬ E i → W'.heap[i]? = W.heap[i]?
theorem KpE.refl (n : Nat) (E : Nat → Prop) (W : World) : KpE n E W W := ⟨Nat.le_refl _, fun _ _ _ => rfl⟩
theorem KpE.trans {n : Nat} {E : Nat → Prop} {A B C : World} (h : KpE n E A B) (k : KpE n E B C) : KpE n E A C := ⟨Nat.le_trans h.1 k.1, fun i hi he => (k.2 i hi he).trans (h.2 i hi he)⟩
theorem KpE.below {n : Nat} {E : Nat → Prop} {W W' : World} (h : Below n W W') : KpE n E W W' := ⟨h.size, fun i hi _ => h.block i hi⟩
theorem KpE.grown {n : Nat} {E : Nat → Prop} {W W' : World} {row : Option Nat} (h : W.grownBy W' row) (hr : ∀ r, row = some r → E r) (hn : n ≤ W.heap.size) : KpE n E W W' :=
  ⟨h.size, fun i hi he => h.block i (by omega) (fun e => he (hr i e.symm))⟩
theorem KpE.cell {n : Nat} {E : Nat → Prop} {W W' : World} (h : KpE n E W W') {p : Addr} (hp : p.block < n) (he : ¬ E p.block) {v : Value} (hc : W.cell? p = some v) : W'.cell? p = some v := by
  rw [← hc]
  exact World.cell?_of_block (w := W) (h.2 _ hp he)
theorem KpE.put {n m : Nat} {E : Nat → Prop} (hn : n ≤ m) (W : World) (l : Nat) (o o' : Obj) (hl : m ≤ l) : KpE n E W (W.putObj l o') :=
  ⟨by simp [World.putObj], fun i hi _ => World.putObj_heap_other (by omega)⟩
/-- The elements with their indices, backwards. -/
def bk {α : Type} (l : List α) : List (Nat × α) := (l.zipIdx.map fun p => (p.2, p.1)).reverse
theorem bk_length {α : Type} (l : List α) : (bk l).length = l.length := by simp [bk]
theorem bk_get {α : Type} (l : List α) (k : Nat) (hk : k < l.length) : (bk l)[k]? = some (l.length - 1 - k, l[l.length - 1 - k]'(by omega)) := by
  unfold bk
  rw [List.getElem?_reverse (by simpa using hk)]
  simp only [List.length_map, List.length_zipIdx, List.getElem?_map, List.getElem?_zipIdx, Nat.zero_add]
  rw [List.getElem?_eq_getElem (by omega)]; rfl
theorem bk_take_succ {α : Type} (l : List α) (k : Nat) (hk : k < l.length) : (bk l).take (k + 1) = (bk l).take k ++ [(l.length - 1 - k, l[l.length - 1 - k]'(by omega))] := by
  have h := bk_get l k hk
  have hb : k < (bk l).length := by rw [bk_length]; exact hk
  rw [List.getElem?_eq_getElem hb] at h
  rw [List.take_succ_eq_append_getElem hb, Option.some.inj h]
theorem calls_of_wp_m {P : Program} {f : FuncId} {fn : Func} {c : Code} {args : Array Value} {w : World} {R : Ending → World → Prop} (hf : P.funcs[f]? = some fn) (hb : fn.body = some c)
    (h : c.wp P (bodyPostM Fence.wide 9 P fn R) { tmps := args ++ Array.replicate (fn.ntmps - args.size) undef, defers := [] } w) : Calls P f args w R :=
  (callsIn_wide (n := 9)).1 (callsIn_of_wp_marks hf hb trivial (wpIn_wide.2 h) rfl)
theorem MapLaw.MapIs.ownFrom {κ β γ : Type} {enc : κ → Value} {val : β → Value} {b B : Nat} {m : γ → List (κ × β)} (hb : b < B) : OwnFrom B (fun s W => MapLaw.MapIs enc val W b (m s)) :=
  fun s W W' row hs hg hr => hs.same (hg.block b hs.lt (fun e => by have := (hr b e.symm).1; omega))
theorem blk_own {γ : Type} {g t B : Nat} {cs : γ → Array Value} : OwnFrom B (fun s W => W.heap[g]? = some (.cells (cs s) t (0, 0))) :=
  fun s W W' row hs hg hr => (hg.block g (blk_lt hs) (fun e => by obtain ⟨_, o, ho, hc⟩ := hr g e.symm; rw [hs] at ho; cases ho; cases hc)).trans hs
theorem R_putObj {α : Type} {d : Kd α} {e base D : Nat} {ok : Nat → Prop} {w : World} {v : Value} {xs : List α} {o : Obj} (h : d.R e w base ok v xs) (hD : w.heap[D]? = some o) (hc : o.isCells = false) (o' : Obj) : d.R e (w.putObj D o') base ok v xs :=
  Kd.R_mono (Kd.R_grown (Kd.R_bound h) (grownBy_putObj' w D o') (fun k hk e => by cases e; obtain ⟨_, _, _, q, _, cells, hh⟩ := hk; rw [hD] at hh; cases hh; cases hc)) (fun _ hk => hk.1)
theorem R_apart_obj {α : Type} {d : Kd α} {e base g : Nat} {ok : Nat → Prop} {w : World} {v : Value} {xs : List α} {o : Obj} (h : d.R e w base ok v xs) (hg : w.heap[g]? = some o) (ho : ∀ cells, o ≠ .cells cells e (0, 0)) : some g ≠ v.ownBlock :=
  fun e' => by obtain ⟨cells, hh⟩ := Kd.R_typed h g e'.symm; rw [hg] at hh; exact ho _ (Option.some.inj hh)
theorem below_putObj {w W : World} (h : Below w.heap.size w W) {D : Nat} (hD : w.heap.size ≤ D) (o' : Obj) : Below w.heap.size w (W.putObj D o') :=
  h.grown (grownBy_putObj' W D o') h.size (fun k e => by cases e; exact hD)
/-! ### a function with many ranges over functions: its marks -/
def mkMark (D : Nat) : Deferred := { target := .collected D, args := #[] }
def Marks (n0 : Nat) (ds : List Deferred) (W : World) : Prop := ∃ Ds : List Nat, ds = Ds.map mkMark ∧ Ds.Nodup ∧ ∀ D ∈ Ds, n0 ≤ D ∧ W.heap[D]? = some (.deferred (some []))
structure OnlyMarks (n0 : Nat) (W W' : World) : Prop where
  os : W'.os = W.os
  tape : W'.tape = W.tape
  output : W'.output = W.output
  size : W'.heap.size = W.heap.size
  block : ∀ k, (k < n0 ∨ ∀ d, W.heap[k]? ≠ some (.deferred d)) → W'.heap[k]? = W.heap[k]?
theorem OnlyMarks.refl (n0 : Nat) (W : World) : OnlyMarks n0 W W := ⟨rfl, rfl, rfl, rfl, fun _ _ => rfl⟩
theorem OnlyMarks.step {n0 D : Nat} {W W' : World} (hD : n0 ≤ D) (hW : W.heap[D]? = some (.deferred (some []))) (h : OnlyMarks n0 (W.putObj D (.deferred none)) W') : OnlyMarks n0 W W' :=
  ⟨h.os, h.tape, h.output, by rw [h.size]; simp, fun k hk => by
    have hne : k ≠ D := by
      rcases hk with hk | hk
      · omega
      · intro e; subst e; exact hk _ hW
    have h1 : (W.putObj D (.deferred none)).heap[k]? = W.heap[k]? := World.putObj_heap_other hne
    exact (h.block k (hk.imp_right fun h2 d => by rw [h1]; exact h2 d)).trans h1⟩
theorem Marks.nil (n0 : Nat) (W : World) : Marks n0 [] W := ⟨[], rfl, List.nodup_nil, by simp⟩
theorem Marks.cons {n0 D : Nat} {ds : List Deferred} {W : World} (h : Marks n0 ds W) (hD : n0 ≤ D) (hW : W.heap[D]? = some (.deferred (some []))) (hn : ∀ Ds : List Nat, ds = Ds.map mkMark → D ∉ Ds) : Marks n0 ({ target := .collected D, args := #[] } :: ds) W := by
  obtain ⟨Ds, rfl, h1, h2⟩ := h
  exact ⟨D :: Ds, rfl, List.nodup_cons.2 ⟨hn Ds rfl, h1⟩, fun E hE => by rcases List.mem_cons.1 hE with rfl | hE; exact ⟨hD, hW⟩; exact h2 E hE⟩
theorem Marks.keep {n0 : Nat} {ds : List Deferred} {W W' : World} (h : Marks n0 ds W) (hk : ∀ k : Nat, W.heap[k]? = some (.deferred (some [])) → W'.heap[k]? = W.heap[k]?) : Marks n0 ds W' := by
  obtain ⟨Ds, rfl, h1, h2⟩ := h
  exact ⟨Ds, rfl, h1, fun D hD => ⟨(h2 D hD).1, (hk D (h2 D hD).2).trans (h2 D hD).2⟩⟩
theorem Marks.below {n0 : Nat} {ds : List Deferred} {W W' : World} (h : Marks n0 ds W) (hb : Below W.heap.size W W') : Marks n0 ds W' := h.keep fun k hk => hb.block k (blk_lt hk)
theorem leaves_of_marks {P : Program} {fn : Func} {tmps : Array Value} {R : Ending → World → Prop} {v : Value} {n0 n : Nat} (hres : ∀ W, (results fn tmps).run P W = .ok v W) : ∀ (ds : List Deferred) (W : World), Marks n0 ds W → (∀ W', OnlyMarks n0 W W' → R (.returned v) W') → LeavesInM Fence.wide n P fn tmps R ds .returning W := by
  intro ds
  induction ds with
  | nil => intro W _ hR; exact ⟨v, hres W, hR W (OnlyMarks.refl _ _)⟩
  | cons d ds ih =>
    intro W hm hR
    obtain ⟨Ds, he, h1, h2⟩ := hm
    cases Ds with
    | nil => simp at he
    | cons D Ds =>
      simp only [List.map_cons, List.cons.injEq] at he
      obtain ⟨rfl, rfl⟩ := he
      obtain ⟨hD, hW⟩ := h2 D List.mem_cons_self
      refine ⟨by simp, .inl ⟨D, _, rfl, run_takeDeferred hW, ?_⟩⟩
      refine ih _ ⟨Ds, rfl, (List.nodup_cons.1 h1).2, fun E hE => ?_⟩ (fun W' hW' => hR W' (hW'.step hD hW))
      obtain ⟨e1, e2⟩ := h2 E (List.mem_cons_of_mem _ hE)
      exact ⟨e1, (World.putObj_heap_other (fun e => by subst e; exact (List.nodup_cons.1 h1).1 hE)).trans e2⟩
theorem R_onlyMarks {α : Type} {d : Kd α} {e base n0 : Nat} {ok : Nat → Prop} {w w' : World} {v : Value} {xs : List α} (h : d.R e w base ok v xs) (hm : OnlyMarks n0 w w') : d.R e w' base ok v xs :=
  Kd.R_mono (Kd.R_step (Kd.R_bound h) (fun k hk _ => hm.block k (.inr fun o ho => by obtain ⟨_, _, _, q, _, cells, hh⟩ := hk; rw [ho] at hh; cases hh))) (fun _ hk => hk.1)
theorem below_onlyMarks {w W W' : World} (h : Below w.heap.size w W) (hm : OnlyMarks w.heap.size W W') : Below w.heap.size w W' :=
  ⟨hm.os.trans h.os, hm.tape.trans h.tape, hm.output.trans h.output, by rw [hm.size]; exact h.size, fun k hk => (hm.block k (.inl hk)).trans (h.block k hk)⟩
set_option maxRecDepth 100000 in
set_option maxHeartbeats 1000000 in
theorem bkNode_in (n lp Bs n₀ : Nat) (E : Nat → Prop) (A : Option Addr) (c0 : Nat) (xs : List Node) (hn : 1 ≤ n) (hm : xs.length ≤ 1000000) (J Jx : List (Nat × Node) → World → Prop)
    (hY : ∀ pre x W, J pre W → pre.length < xs.length → YieldAt Fence.wide (n - 1) Tryd.prog lp #[.int .i64 ((x : Nat × Node).1 : Int), vNode x.2] W fun e W' =>
      (e = .returned (.bool true) ∧ J (pre ++ [x]) W' ∧ KpE n₀ E W W') ∨ (e = .returned (.bool false) ∧ Jx (pre ++ [x]) W'))
    (W : World) (hBs : W.cell? ⟨Bs, 0, none⟩ = some (.slice A xs.length c0)) (hB0 : Bs < n₀) (hBE : ¬ E Bs) (hA : ∀ ad, A = some ad → 0 < xs.length → ad.block < n₀ ∧ ¬ E ad.block) (hr : Kd.C k37 W A xs.length xs) (h0 : J [] W) :
    CallsIn Fence.wide n Tryd.prog 81 #[.func (.yield lp) #[] #[], .pointer (some ⟨Bs, 0, none⟩)] W fun e W' => (∃ v, e = .returned v) ∧
      ((∃ ys, ys = bk xs ∧ J ys W') ∨ (∃ pre, pre <+: bk xs ∧ Jx pre W')) := by
  have hu := Tryd.underlying37
  have HY := Aside0.mk hY
  have HR := Aside0.mk hr
  have HA := Aside0.mk hA
  have HE := Aside0.mk hBE
  clear hY hr hA hBE
  refine callsIn_of_wp Tryd.func81 rfl trivial ?_ rfl
  simp only [Tryd.ntmps81, List.size_toArray, List.length_cons, List.length_nil, Nat.reduceAdd, Nat.reduceSub, Array.replicate_succ, Array.replicate_zero, List.push_toArray, List.append_toArray, List.nil_append, List.cons_append]
  gi_wp2
  gi_loopw [3] (fun i wr => ∃ k : Nat, k ≤ xs.length ∧ i = .int .i64 ((xs.length : Int) - 1 - k) ∧ Aside0 (J ((bk xs).take k) wr) ∧ Aside0 (KpE n₀ E W wr)) (fun i _ => (intOf i + 1).toNat)
  case atStart => exact ⟨0, Nat.zero_le _, by simp, ⟨h0⟩, ⟨KpE.refl _ _ _⟩⟩
  case round =>
    obtain ⟨k, hk, rfl, hJ, hK⟩ := hrel
    have hs : wr.cell? ⟨Bs, 0, none⟩ = some (.slice A xs.length c0) := hK.out.cell (p := ⟨Bs, 0, none⟩) hB0 HE.out hBs
    by_cases hlt : k < xs.length
    · obtain ⟨x, hx⟩ : ∃ x, Aside0 (xs[xs.length - 1 - k]? = some x) := ⟨_, ⟨List.getElem?_eq_getElem (by omega)⟩⟩
      obtain ⟨ad, e, g0, g1, g2, g3, g4, g5⟩ := node_at HR.out (Below.refl _ _) _ x hx.out
      subst e
      obtain ⟨ha, hae⟩ := HA.out ad rfl (by omega)
      have hbl : (ad.add ((xs.length - 1 - k) * 6)).block = ad.block := by unfold Addr.add; split <;> rfl
      replace g0 := hK.out.cell (p := ad.add ((xs.length - 1 - k) * 6)) (by rw [hbl]; exact ha) (by rw [hbl]; exact hae) g0
      replace g1 := hK.out.cell (p := ⟨_, _, none⟩) (by simp only [hbl]; exact ha) (by simp only [hbl]; exact hae) g1
      replace g2 := hK.out.cell (p := ⟨_, _, none⟩) (by simp only [hbl]; exact ha) (by simp only [hbl]; exact hae) g2
      replace g3 := hK.out.cell (p := ⟨_, _, none⟩) (by simp only [hbl]; exact ha) (by simp only [hbl]; exact hae) g3
      replace g4 := hK.out.cell (p := ⟨_, _, none⟩) (by simp only [hbl]; exact ha) (by simp only [hbl]; exact hae) g4
      replace g5 := hK.out.cell (p := ⟨_, _, none⟩) (by simp only [hbl]; exact ha) (by simp only [hbl]; exact hae) g5
      clear hbl hae ha
      have hx' : x = xs[xs.length - 1 - k]'(by omega) := by have := hx.out; rw [List.getElem?_eq_getElem (by omega)] at this; exact (Option.some.inj this).symm
      have HT : Aside0 ((bk xs).take (k + 1) = (bk xs).take k ++ [(xs.length - 1 - k, x)]) := ⟨by rw [bk_take_succ xs k hlt, hx']⟩
      clear hx'
      have hi : ((xs.length : Int) - 1 - k) = ((xs.length - 1 - k : Nat) : Int) := by omega
      rw [hi]
      obtain ⟨j, hj⟩ : ∃ j, Aside0 (j = xs.length - 1 - k) := ⟨_, ⟨rfl⟩⟩
      rw [← hj.out] at g0 g1 g2 g3 g4 g5 ⊢
      have hjl : j < xs.length := by rw [hj.out]; omega
      obtain ⟨fn, tmps, assign, body, hy, hR⟩ := HY.out _ (j, x) wr hJ.out (by rw [List.length_take, bk_length]; omega)
      dsimp only at hy
      clear hi
      gi_wp2
      refine hR.mono ?_
      rintro e W3 (⟨rfl, hJ3, hk3⟩ | ⟨rfl, hJx3⟩)
      · gi_wp2
        go_roundw
        case rel => exact ⟨k + 1, by omega, by rw [hj.out]; (try congr 1); (try omega), ⟨by rw [HT.out, ← hj.out]; exact hJ3⟩, ⟨hK.out.trans hk3⟩⟩
        case measure => simp [intOf] <;> omega
      · gi_wp2
        refine bodyPost_ret (results_none rfl _ _ _) rfl ?_
        exact ⟨⟨_, rfl⟩, .inr ⟨_, by rw [hj.out, ← HT.out]; exact List.take_prefix _ _, hJx3⟩⟩
    · obtain rfl : k = xs.length := by omega
      have hi : ((xs.length : Int) - 1 - xs.length) = -1 := by omega
      rw [hi]
      clear hi
      gi_wp2
      go_end0
      exact ⟨⟨_, rfl⟩, .inl ⟨_, rfl, by have := hJ.out; rwa [List.take_of_length_le (by rw [bk_length]; omega)] at this⟩⟩
set_option maxHeartbeats 400000 in
theorem BackwardNode.calls (A : Option Addr) (n c0 : Nat) (w : World) :
    Calls Tryd.prog 62 #[.slice A n c0] w fun e w' => e = .returned (.func (.func 81) #[] #[.pointer (some ⟨w.heap.size, 0, none⟩)]) ∧ w' = w.alloc (.cells #[.slice A n c0] 22) := by
  go_enter Tryd.func62, Tryd.ntmps62
  go_wp2
  go_ret
  exact ⟨rfl, rfl⟩
/-- Where the nodes are, after the first nodes from behind. -/
def atOf (pre : List (Nat × Node)) : List (Dot × Nat) := pre.foldl (fun m p => MapLaw.mset m p.2.f0 p.1) []
theorem atOf_snoc (pre : List (Nat × Node)) (x : Nat × Node) : atOf (pre ++ [x]) = MapLaw.mset (atOf pre) x.2.f0 x.1 := by simp [atOf]
abbrev Fault := S44
/-- The faults of the first k nodes. -/
def faultsUpto (l : List Node) (m : List (Dot × Nat)) (k : Nat) : List Fault := (List.range k).flatMap fun i => if flawOf l m i = 0 then [] else [⟨(i : Int), flawOf l m i⟩]
theorem faultsUpto_succ (l : List Node) (m : List (Dot × Nat)) (k : Nat) : faultsUpto l m (k + 1) = faultsUpto l m k ++ (if flawOf l m k = 0 then [] else [⟨(k : Int), flawOf l m k⟩]) := by
  simp [faultsUpto, List.range_succ]
theorem faultsUpto_length (l : List Node) (m : List (Dot × Nat)) (k : Nat) : (faultsUpto l m k).length ≤ k := by
  induction k with
  | zero => simp [faultsUpto]
  | succ k ih => rw [faultsUpto_succ, List.length_append]; split <;> simp <;> omega
def faultsOf (l : List Node) : List Fault := faultsUpto l (atOf (bk l)) l.length
theorem atOf_lt (n : Nat) : ∀ (pre : List (Nat × Node)) (m : List (Dot × Nat)), (∀ x ∈ pre, x.1 < n) → (∀ d k, MapLaw.mget m d = some k → k < n) → ∀ d k, MapLaw.mget (pre.foldl (fun m p => MapLaw.mset m p.2.f0 p.1) m) d = some k → k < n
  | [], m, _, hm => hm
  | x :: pre, m, hx, hm => by
    refine atOf_lt n pre _ (fun y hy => hx y (List.mem_cons_of_mem _ hy)) ?_
    intro d k h
    rw [MapLaw.mget_mset] at h
    split at h
    · cases h; exact hx x List.mem_cons_self
    · exact hm d k h
theorem bk_lt {α : Type} (l : List α) : ∀ x ∈ bk l, x.1 < l.length := by
  intro x hx
  unfold bk at hx
  rw [List.mem_reverse, List.mem_map] at hx
  obtain ⟨p, hp, rfl⟩ := hx
  exact List.snd_lt_of_mem_zipIdx hp
theorem atOf_bk_lt (l : List Node) : ∀ d k, MapLaw.mget (atOf (bk l)) d = some k → k < l.length :=
  atOf_lt l.length (bk l) [] (bk_lt l) (fun d k h => by simp [MapLaw.mget_nil] at h)
set_option maxHeartbeats 1000000 in
set_option maxRecDepth 100000 in
theorem Faults.walk (A0 : Option Addr) (c0 : Nat) (l0 : List Node) (w : World) (hr0 : Kd.C k37 w A0 l0.length l0) (hc0 : l0.length ≤ c0) (hl : l0.length ≤ 1000000) :
    Calls Tryd.prog 34 #[.slice A0 l0.length c0] w fun e w' => ∃ v0_ : Value, e = .returned (v0_) ∧ Kd.R k44 44 w' w.heap.size (fun _ => True) v0_ (faultsOf l0) ∧ Below w.heap.size w w' := by
  have HR := Aside0.mk hr0
  have HC := Aside0.mk hc0
  have HA : Aside0 (∀ ad, A0 = some ad → 0 < l0.length → ad.block < w.heap.size) := ⟨fun ad e hp => by
    obtain ⟨x, hx⟩ : ∃ x, l0[0]? = some x := ⟨_, List.getElem?_eq_getElem hp⟩
    obtain ⟨ad', e', g0, _⟩ := node_at hr0 (Below.refl _ _) 0 x hx
    rw [e] at e'; cases e'
    have := World.block_lt_of_cell? w _ g0
    have hbl : (ad.add (0 * 6)).block = ad.block := by unfold Addr.add; split <;> rfl
    rw [hbl] at this; exact this⟩
  clear hr0 hc0
  have hmm := @run_makeMap Tryd.prog
  refine calls_of_wp_m Tryd.func34 rfl ?_
  simp only [Tryd.ntmps34, List.size_toArray, List.length_cons, List.length_nil, Nat.reduceAdd, Nat.reduceSub, Array.replicate_succ, Array.replicate_zero, List.push_toArray, List.append_toArray, List.nil_append, List.cons_append]
  go_wp2_with fail
  refine (BackwardNode.calls _ _ _ _).mono ?_
  rintro e w1 ⟨rfl, rfl⟩
  go_wp2_with fail
  have hM : MapLaw.MapIs (κ := Dot) (β := Nat) vDot vNat (((w.alloc (.map #[] 0)).alloc (.cells #[.map (some w.heap.size)] 89)).alloc (.cells #[.slice A0 l0.length c0] 22)) w.heap.size [] :=
    (MapLaw.MapIs.new w).below ((((Below.refl _ _).alloc (Nat.le_refl _) _).alloc (by simp) _))
  have hB : (((w.alloc (.map #[] 0)).alloc (.cells #[.map (some w.heap.size)] 89)).alloc (.cells #[.slice A0 l0.length c0] 22)).heap[w.heap.size + 1]? = some (.cells #[.map (some w.heap.size)] 89 (0, 0)) := by
    have := blk_new (w.alloc (.map #[] 0)) (.cells #[.map (some w.heap.size)] 89)
    rw [World.size_alloc] at this
    exact blk_alloc this _
  have hS : (((w.alloc (.map #[] 0)).alloc (.cells #[.map (some w.heap.size)] 89)).alloc (.cells #[.slice A0 l0.length c0] 22)).heap[w.heap.size + 2]? = some (.cells #[.slice A0 l0.length c0] 22 (0, 0)) := by
    have := blk_new ((w.alloc (.map #[] 0)).alloc (.cells #[.map (some w.heap.size)] 89)) (.cells #[.slice A0 l0.length c0] 22)
    simpa [World.size_alloc] using this
  have hW : Below w.heap.size w (((w.alloc (.map #[] 0)).alloc (.cells #[.map (some w.heap.size)] 89)).alloc (.cells #[.slice A0 l0.length c0] 22)) :=
    below_alloc (below_alloc (below_alloc (Below.refl _ _) _) _) _
  have hsz : (((w.alloc (.map #[] 0)).alloc (.cells #[.map (some w.heap.size)] 89)).alloc (.cells #[.slice A0 l0.length c0] 22)).heap.size = w.heap.size + 3 := by simp
  generalize (((w.alloc (.map #[] 0)).alloc (.cells #[.map (some w.heap.size)] 89)).alloc (.cells #[.slice A0 l0.length c0] 22)) = W1 at *
  have HR1 := Kd.C_below HR.out hW
  refine wpIn_wide.1 (wpIn_rangeFunc_ownH (n := 9) (F := Fence.wide) rfl (by decide) (gf := 81) (lb := #[.pointer (some ⟨w.heap.size + 1 + 1, 0, none⟩)]) rfl trivial Tryd.call81
    (encs := fun x : Nat × Node => #[.int .i64 (x.1 : Int), vNode x.2]) (Kp := KpE W1.heap.size (fun i => i = w.heap.size)) (S := fun ys => ys = bk l0) (Sp := fun pre => pre <+: bk l0) (N := l0.length) (w0 := W1)
    (fun lp J Jx W hWW _ _ hY h0 => bkNode_in 8 lp (w.heap.size + 1 + 1) W1.heap.size (fun i => i = w.heap.size) A0 c0 l0 (by decide) hl J Jx hY W ((hWW.cell (p := ⟨w.heap.size + 1 + 1, 0, none⟩) (by show w.heap.size + 1 + 1 < _; omega)).trans ((blk_cell hS 0).trans rfl)) (by omega) (by show ¬ (w.heap.size + 1 + 1 = w.heap.size); omega) (fun ad e hp => by have := HA.out ad e hp; exact ⟨by omega, by show ¬ (ad.block = w.heap.size); omega⟩) (Kd.C_below HR1 hWW) h0)
    (fun h k => h.trans k) (fun W l o o' hl _ _ _ => KpE.put (Nat.le_refl _) W l o o' hl) (Below.refl _ _) (fun _ => rfl)
    (fun pre W => (MapLaw.MapIs vDot vNat W w.heap.size (atOf pre) ∧ W.heap[w.heap.size + 1]? = some (.cells #[.map (some w.heap.size)] 89 (0, 0))) ∧ (Below w.heap.size w W ∧ W1.heap.size ≤ W.heap.size))
    (fun _ _ _ => False)
    (OwnFrom.and (OwnFrom.and (MapLaw.MapIs.ownFrom (by omega)) blk_own) (OwnFrom.and (ownFrom_below (Nat.le_refl _) (by omega)) (fun _ _ _ _ hs hg _ => Nat.le_trans hs hg.size)))
    (fun _ _ _ _ _ hs _ _ => hs)
    ⟨⟨hM, hB⟩, hW, Nat.le_refl _⟩
    (fun x a' W => ∃ Bx, W1.heap.size ≤ Bx ∧ W.heap[Bx]? = some (.cells #[.int .i64 x.2.f0.f0, .int .i64 x.2.f0.f1, .int .i64 x.2.f1.f0, .int .i64 x.2.f1.f1, .int .i64 x.2.f2, .int .i32 x.2.f3] 37 (0, 0)) ∧ a' = { tmps := #[.slice A0 l0.length c0, undef, .slice none 0 0, .pointer (some ⟨w.heap.size + 1, 0, none⟩), .int .i64 (x.1 : Int), .pointer (some ⟨Bx, 0, none⟩), undef, undef, undef, .map (some w.heap.size), .slice A0 l0.length c0, .func (.func 81) #[] #[.pointer (some ⟨w.heap.size + 1 + 1, 0, none⟩)], .int .i64 (x.1 : Int), vNode x.2, undef, undef, undef, undef, undef, undef, undef, undef, undef, undef, undef, undef, undef, undef, undef, undef, undef, undef, undef, undef, undef, undef, undef], defers := [] })
    (fun x a' _ W W' row hs hg hr => by
      obtain ⟨Bx, h1, h2, h3⟩ := hs
      exact ⟨Bx, h1, (hg.block Bx (blk_lt h2) (fun e => by obtain ⟨_, o, ho, hc⟩ := hr Bx e.symm; rw [h2] at ho; cases ho; cases hc)).trans h2, h3⟩)
    ?assign ?body ?done ?stop)
  case assign =>
    rintro l pre x W K ⟨⟨hi1, hi2⟩, hi3, hi4⟩ hK
    gi_wp2
    exact hK _ _ ((KeepsOthers.alloc _ _).from _) (KpE.below ((Below.refl _ W).alloc hi4 _)) ⟨⟨hi1.below (below_alloc (Below.refl _ _) _), blk_alloc hi2 _⟩, hi3.alloc hi3.size _, by simp; omega⟩ ⟨W.heap.size, hi4, blk_new _ _, rfl⟩
  case body =>
    rintro l pre x a' W hl2 ⟨rr, hrr⟩ ⟨⟨hi1, hi2⟩, hi3, hi4⟩ ⟨Bx, hx1, hx2, rfl⟩ hlt
    have hc0 : W.cell? ⟨w.heap.size + 1, 0, none⟩ = _ := (blk_cell hi2 0).trans rfl
    have hc1 : W.cell? ⟨Bx, 0, none⟩ = _ := (blk_cell hx2 0).trans rfl
    have hc2 : W.cell? ⟨Bx, 1, none⟩ = _ := (blk_cell hx2 1).trans rfl
    gi_wp2_with (gi_at_mapUpdate; refine MapLaw.wpListIn_update rfl _ _ _ _ rfl dotKey Tryd.underlying89 x.2.f0 x.1 rfl rfl rfl hi1 ?_; intro w2 hm2 hg2)
    exact ⟨KeepsFrom.of_grownBy hg2 (fun j e => by cases e; omega), KpE.grown hg2 (fun r e => by cases e; rfl) hi4, ⟨by rw [atOf_snoc]; exact hm2, (hg2.block _ (blk_lt hi2) (by simp)).trans hi2⟩, hi3.grown hg2 hi3.size (fun k e => by cases e; exact Nat.le_refl _), Nat.le_trans hi4 hg2.size⟩
  case done =>
    rintro D ys W hD rfl ⟨⟨hi1, hi2⟩, hi3, hi4⟩ hK
    have HI1 := Aside0.mk hi1
    have HI2 := Aside0.mk hi2
    have HI3 := Aside0.mk hi3
    have HK := Aside0.mk hK
    have HS := Aside0.mk hsz
    clear hi1 hi2 hi3 hi4 hK hM hB hS hsz HR1
    have HMB := Aside0.mk (atOf_bk_lt l0)
    obtain ⟨m, Hm⟩ : ∃ m, Aside0 (atOf (bk l0) = m) := ⟨_, ⟨rfl⟩⟩
    rw [Hm.out] at HI1 HMB
    go_wp2
    go_loopw [6, 20] (fun v i wr => ∃ k : Nat, k ≤ l0.length ∧ i = .int .i64 k ∧ Aside0 (Kd.R k44 44 wr w.heap.size (fun _ => True) v (faultsUpto l0 m k)) ∧ Aside0 (MapLaw.MapIs vDot vNat wr w.heap.size m) ∧ Aside0 (wr.heap[w.heap.size + 1]? = some (.cells #[.map (some w.heap.size)] 89 (0, 0))) ∧ Aside0 (wr.heap[D]? = some (.deferred (some []))) ∧ Aside0 (Below w.heap.size w wr)) (fun _ i _ => l0.length - (intOf i).toNat)
    case atStart => exact ⟨0, Nat.zero_le _, rfl, ⟨Kd.R_nil _ _ _ _ _⟩, HI1, HI2, HK, HI3⟩
    case round =>
      obtain ⟨k, hk, rfl, HO, HI1, HI2, HK, HI3⟩ := hrel
      have hc0 : wr.cell? ⟨w.heap.size + 1, 0, none⟩ = _ := (blk_cell HI2.out 0).trans rfl
      by_cases hlt : k < l0.length
      · obtain ⟨f, Hf⟩ : ∃ f, Aside0 (flawOf l0 m k = f) := ⟨_, ⟨rfl⟩⟩
        go_wp2_with fail
        refine (flaw.calls A0 c0 l0 w.heap.size m k wr (Kd.C_below HR.out HI3.out) HC.out hl HI1.out HMB.out hlt).mono ?_
        rintro e w2 ⟨rfl, hb2⟩
        rw [Hf.out]
        have HO2 := Aside0.mk (Kd.R_below HO.out hb2)
        have HI12 := Aside0.mk (HI1.out.below hb2)
        have HI22 := Aside0.mk (blk_keep HI2.out hb2)
        have HK2 := Aside0.mk (blk_keep HK.out hb2)
        have HI32 := Aside0.mk (below_more HI3.out hb2)
        clear HO HI1 HI2 HK HI3 hb2 hc0
        by_cases hf : f = 0
        · have hfb : (f != 0) = false := bne_eq_false_iff_eq.mpr hf
          have HF0 : Aside0 (flawOf l0 m k = 0) := ⟨Hf.out.trans hf⟩
          clear hf
          go_wp2
          go_roundw
          case rel => exact ⟨k + 1, by omega, by go_num, ⟨by rw [faultsUpto_succ, if_pos HF0.out, List.append_nil]; exact HO2.out⟩, HI12, HI22, HK2, HI32⟩
          case measure => simp [intOf]; omega
        · have hfb : (f != 0) = true := bne_iff_ne.mpr hf
          have HF0 : Aside0 (¬ flawOf l0 m k = 0) := ⟨fun h => hf (Hf.out.symm.trans h)⟩
          clear hf
          have hlen := faultsUpto_length l0 m k
          go_wp2_with (at_builtin; go_loud (refine Kd.R_append k44 (w0 := w) w.heap.size rfl (.tmp 29) (.tmp 33) 25 44 (.agg #[(.int .i64 0), (.int .i64 0)]) 16 rfl Tryd.underlying25 info44 rfl (by decide) (by omega) u6 (faultsUpto l0 m k) (⟨(k : Int), f⟩ : Fault) [.int .i64 (k : Int), .int .i64 f] (fun _ => True) (fun _ => False) rfl rfl ?aP (fun _ hk => hk.elim) ?aF ?aO ?aB ?aS ?aL ?_); (case aP => exact k44_mkM _ _ _ (⟨(k : Int), f⟩ : Fault)); (case aF => exact (fun _ _ => trivial)); (case aO => exact HO2.out); (case aB => exact HI32.out); (case aS => exact HI32.out.size); (case aL => omega); intro v2 w3 ho hb hg hat)
          have hn1 := R_apart_obj HO2.out HI22.out (fun cells h => by cases h)
          have hn2 := R_apart_obj HO2.out HK2.out (fun cells h => by cases h)
          have hn3 : some w.heap.size ≠ u6.ownBlock := by
            obtain ⟨es, cl, h1, _⟩ := HI12.out
            exact R_apart_obj HO2.out h1 (fun cells h => by cases h)
          go_roundw
          case rel => exact ⟨k + 1, by omega, by go_num, ⟨by rw [faultsUpto_succ, if_neg HF0.out, Hf.out]; exact ho⟩, ⟨HI12.out.same (hg.block _ HI12.out.lt hn3)⟩, ⟨(hg.block _ (blk_lt HI22.out) hn1).trans HI22.out⟩, ⟨(hg.block _ (blk_lt HK2.out) hn2).trans HK2.out⟩, ⟨hb⟩⟩
          case measure => simp [intOf]; omega
      · obtain rfl : k = l0.length := by omega
        go_wp2
        refine ⟨by simp, .inl ⟨_, _, rfl, run_takeDeferred HK.out, ?_⟩⟩
        refine ⟨_, results_tmp rfl _ _ _, _, rfl, ?_, below_putObj HI3.out (by have := HS.out; omega) _⟩
        unfold faultsOf
        rw [Hm.out]
        exact R_putObj HO.out HK.out rfl _
  case stop =>
    rintro D c pre W _ _ h _
    exact h.elim
def shape_Faults.f (l0 : List Node) : Option (List Fault) := if l0.length ≤ 1000000 then some (faultsOf l0) else none
theorem shape_Faults.calls (A0 : Option Addr) (c0 : Nat) (l0 : List Node) (r : List Fault) (w : World) (hr0 : Kd.C k37 w A0 l0.length l0) (hc0 : l0.length ≤ c0) (h : shape_Faults.f l0 = some r) :
    Calls Tryd.prog 34 #[.slice A0 l0.length c0] w fun e w' => ∃ v0_ : Value, e = .returned (v0_) ∧ Kd.R k44 44 w' w.heap.size (fun _ => True) v0_ r ∧ Below w.heap.size w w' := by
  unfold shape_Faults.f at h
  by_cases hl : l0.length ≤ 1000000
  · rw [if_pos hl] at h
    obtain rfl := Option.some.inj h
    exact Faults.walk A0 c0 l0 w hr0 hc0 hl
  · rw [if_neg hl] at h; cases h
end

/-! ### shape_First: function 35 -/
def shape_First.f (l0 : List (S37)) : Option (Int × Int) := (shape_Faults.f l0).bind fun t127 => (if (t127.length : Int) = 0 then (some ((-1), 0)) else (if 0 < (t127.length : Int) then (some ((rd_T44 t127 0).f0, (rd_T44 t127 0).f1)) else (none)))
set_option maxHeartbeats 8000000 in
set_option maxRecDepth 100000 in
theorem shape_First.calls (A0 : Option Addr) (c0 : Nat) (l0 : List (S37)) (r1 : Int) (r2 : Int) (w : World) (hr0 : Kd.C k37 w A0 l0.length l0) (hc0 : l0.length ≤ c0) (h : shape_First.f l0 = some (r1, r2)) :
    Calls Tryd.prog 35 #[.slice A0 l0.length c0] w fun e w' => e = .returned (.agg #[.int .i64 r1, .int .i64 r2]) ∧ Below w.heap.size w w' := by
  have hu44 := Tryd.underlying44
  have HR0 := Aside0.mk hr0
  have HC0 := Aside0.mk hc0
  clear hr0 hc0
  have HB := Aside0.mk (Below.refl w.heap.size w)
  have H : ((shape_Faults.f l0).bind fun t127 => (if (t127.length : Int) = 0 then (some ((-1), 0)) else (if 0 < (t127.length : Int) then (some ((rd_T44 t127 0).f0, (rd_T44 t127 0).f1)) else (none)))) = some (r1, r2) := h
  clear h
  replace H := Option.bind_eq_some_iff.mp H
  obtain ⟨t127, A20, H⟩ := H
  replace H : (if (t127.length : Int) = 0 then (some ((-1), 0)) else (if 0 < (t127.length : Int) then (some ((rd_T44 t127 0).f0, (rd_T44 t127 0).f1)) else (none))) = some (r1, r2) := H
  have A2 := Aside0.mk A20
  clear A20
  by_cases c3 : (t127.length : Int) = 0
  · rw [if_pos c3] at H
    have c3b0 : ((t127.length : Int) == 0) = true := beq_iff_eq.mpr c3
    have c3b1 : ((t127.length : Int) != 0) = false := bne_eq_false_iff_eq.mpr c3
    clear c3
    simp only [Option.some.injEq, Prod.mk.injEq] at H
    obtain ⟨rfl, rfl⟩ := H
    go_enter Tryd.func35, Tryd.ntmps35
    go_wp2_with (first | ((with_reducible refine gate_dst (N := 2) rfl ?_); refine box_event ?hg (N := 2) ?hd (cs := #[.int .i64 0, .int .i64 0]) (t := 44) ?hr ?_; (case hd => rfl); (case hg => rfl); (case hr => first | (go_simp; done) | (go_simp; rfl)); intro gb126 hg w4 hbox hb; have n0_ := Aside0.mk (below_step (by repeat (first | (with_reducible first | exact HB.out | apply below_alloc | apply pw_below_drewN | apply below_drew1) | exact HB.out)) hb); have n1_ := Aside0.mk (hbox); have n2_ := Aside0.mk ((by rw [hg]; exact (below_size (by repeat (first | (with_reducible first | exact HB.out | apply below_alloc | apply pw_below_drewN | apply below_drew1) | exact HB.out))) : w.heap.size ≤ gb126)); have n3_ := Aside0.mk ((by rw [hg]; exact (below_size (by repeat (first | (with_reducible first | exact HB.out | apply below_alloc | apply pw_below_drewN | apply below_drew1) | exact HB.out))) : w.heap.size ≤ gb126)); clear HB; have HB := n0_; have BK126 := n1_; have GW126 := n2_; have GE126 := n3_; clear n0_ n1_ n2_ n3_; clear hb hbox hg) | ((with_reducible refine gate_callee (f := 34) rfl ?_); refine goesL_ (some 5) rfl rfl Tryd.func34 (by kernel_rfl) rfl #[.slice A0 l0.length c0] rfl (by (try simp only [List.map_toArray, List.map_cons, List.map_nil]); first | done | rfl | (simp only [List.length_drop, List.length_take]; rfl)) ?_; (with_reducible refine (shape_Faults.calls _ _ l0 t127 _ ?side1 ?side2 A2.out).mono ?_); (case side1 => repeat (first | exact (Kd.C_below HR0.out HB.out) | (with_reducible refine Kd.C_alloc ?_ _) | (with_reducible refine Kd.C_drewN ?_ _) | (with_reducible refine Kd.C_drew ?_))); (case side2 => exact HC0.out); rintro e w5 ⟨v128, rfl, ho0, hb⟩; refine ⟨_, rfl, ?_⟩; have n0_ := Aside0.mk (Kd.R_lower (Kd.R_newB ho0 (g := gb126) (o := .cells #[.int .i64 0, .int .i64 0] 44 (0, 0)) (by (with_reducible repeat (first | refine blk_drewN ?_ _ | refine blk_drew ?_ | refine blk_alloc ?_ _)); exact BK126.out)) (below_size (by repeat (first | (with_reducible first | exact HB.out | apply below_alloc | apply pw_below_drewN | apply below_drew1 | refine below_set ?_ GE126.out) | exact HB.out)))); have n1_ := Aside0.mk (blk_below (g := gb126) (o := .cells #[.int .i64 0, .int .i64 0] 44 (0, 0)) (by (with_reducible repeat (first | refine blk_drewN ?_ _ | refine blk_drew ?_ | refine blk_alloc ?_ _)); exact BK126.out) hb); have n2_ := Aside0.mk (below_step (by repeat (first | (with_reducible first | exact HB.out | apply below_alloc | apply pw_below_drewN | apply below_drew1 | refine below_set ?_ GE126.out) | exact HB.out)) hb); clear BK126; clear HB; have HO129 := n0_; have BK126 := n1_; have HB := n2_; clear n0_ n1_ n2_; (try clear hb); (try clear hb2); (try clear hk); (try clear hi); (try clear ho0); obtain ⟨Ao6, co6, eo6⟩ := Kd.R_slice HO129.out; subst eo6; have hcz7_0 : w5.cell? ⟨gb126, 0, none⟩ = some (.int .i64 0) := (blk_cell BK126.out 0).trans rfl; have hcz7_1 : w5.cell? ⟨gb126, 1, none⟩ = some (.int .i64 0) := (blk_cell BK126.out 1).trans rfl; have hfz7_0 := blk_frozen BK126.out 0; have hfz7_1 := blk_frozen BK126.out 1))
    refine bodyPost_ret (results_cell_row rfl _ _ gb126 44 #[.int .i64 (-1), .int .i64 0] (0, 0) _ rfl (by (with_reducible repeat (first | refine blk_drewN ?_ _ | refine blk_drew ?_ | refine blk_alloc ?_ _)); refine blk_put (cs := #[.int .i64 (-1), .int .i64 0]) ?_ 1 _ rfl; (with_reducible repeat (first | refine blk_drewN ?_ _ | refine blk_drew ?_ | refine blk_alloc ?_ _)); refine blk_put (cs := #[.int .i64 0, .int .i64 0]) ?_ 0 _ rfl; (with_reducible repeat (first | refine blk_drewN ?_ _ | refine blk_drew ?_ | refine blk_alloc ?_ _)); exact BK126.out) Tryd.underlying44 rfl (by kernel_rfl)) rfl ?_
    exact ⟨by first | rfl | (simp [errW_none, errW_some] <;> rfl) | (simp [*, errW_none, errW_some] <;> rfl), by repeat (first | (with_reducible first | exact HB.out | apply below_alloc | apply pw_below_drewN | apply below_drew1 | refine below_set ?_ GE126.out) | exact HB.out)⟩
  · rw [if_neg c3] at H
    have c3b0 : ((t127.length : Int) == 0) = false := beq_eq_false_iff_ne.mpr c3
    have c3b1 : ((t127.length : Int) != 0) = true := bne_iff_ne.mpr c3
    have c3b2 : ¬ (t127 = []) := fun h_ => c3 (by rw [h_]; rfl)
    by_cases c8 : 0 < (t127.length : Int)
    · rw [if_pos c8] at H
      have c8b0 : decide (0 < (t127.length : Int)) = true := decide_eq_true c8
      have c8b1 : decide (0 < t127.length) = true := decide_eq_true (by omega)
      clear c8
      simp only [Option.some.injEq, Prod.mk.injEq] at H
      obtain ⟨rfl, rfl⟩ := H
      go_enter Tryd.func35, Tryd.ntmps35
      go_wp2_with (first | ((with_reducible refine gate_dst (N := 2) rfl ?_); refine box_event ?hg (N := 2) ?hd (cs := #[.int .i64 0, .int .i64 0]) (t := 44) ?hr ?_; (case hd => rfl); (case hg => rfl); (case hr => first | (go_simp; done) | (go_simp; rfl)); intro gb126 hg w9 hbox hb; have n0_ := Aside0.mk (below_step (by repeat (first | (with_reducible first | exact HB.out | apply below_alloc | apply pw_below_drewN | apply below_drew1) | exact HB.out)) hb); have n1_ := Aside0.mk (hbox); have n2_ := Aside0.mk ((by rw [hg]; exact (below_size (by repeat (first | (with_reducible first | exact HB.out | apply below_alloc | apply pw_below_drewN | apply below_drew1) | exact HB.out))) : w.heap.size ≤ gb126)); have n3_ := Aside0.mk ((by rw [hg]; exact (below_size (by repeat (first | (with_reducible first | exact HB.out | apply below_alloc | apply pw_below_drewN | apply below_drew1) | exact HB.out))) : w.heap.size ≤ gb126)); clear HB; have HB := n0_; have BK126 := n1_; have GW126 := n2_; have GE126 := n3_; clear n0_ n1_ n2_ n3_; clear hb hbox hg) | ((with_reducible refine gate_callee (f := 34) rfl ?_); refine goesL_ (some 5) rfl rfl Tryd.func34 (by kernel_rfl) rfl #[.slice A0 l0.length c0] rfl (by (try simp only [List.map_toArray, List.map_cons, List.map_nil]); first | done | rfl | (simp only [List.length_drop, List.length_take]; rfl)) ?_; (with_reducible refine (shape_Faults.calls _ _ l0 t127 _ ?side1 ?side2 A2.out).mono ?_); (case side1 => repeat (first | exact (Kd.C_below HR0.out HB.out) | (with_reducible refine Kd.C_alloc ?_ _) | (with_reducible refine Kd.C_drewN ?_ _) | (with_reducible refine Kd.C_drew ?_))); (case side2 => exact HC0.out); rintro e w10 ⟨v128, rfl, ho0, hb⟩; refine ⟨_, rfl, ?_⟩; have n0_ := Aside0.mk (Kd.R_lower (Kd.R_newB ho0 (g := gb126) (o := .cells #[.int .i64 0, .int .i64 0] 44 (0, 0)) (by (with_reducible repeat (first | refine blk_drewN ?_ _ | refine blk_drew ?_ | refine blk_alloc ?_ _)); exact BK126.out)) (below_size (by repeat (first | (with_reducible first | exact HB.out | apply below_alloc | apply pw_below_drewN | apply below_drew1 | refine below_set ?_ GE126.out) | exact HB.out)))); have n1_ := Aside0.mk (blk_below (g := gb126) (o := .cells #[.int .i64 0, .int .i64 0] 44 (0, 0)) (by (with_reducible repeat (first | refine blk_drewN ?_ _ | refine blk_drew ?_ | refine blk_alloc ?_ _)); exact BK126.out) hb); have n2_ := Aside0.mk (below_step (by repeat (first | (with_reducible first | exact HB.out | apply below_alloc | apply pw_below_drewN | apply below_drew1 | refine below_set ?_ GE126.out) | exact HB.out)) hb); clear BK126; clear HB; have HO129 := n0_; have BK126 := n1_; have HB := n2_; clear n0_ n1_ n2_; (try clear hb); (try clear hb2); (try clear hk); (try clear hi); (try clear ho0); obtain ⟨Ao11, co11, eo11⟩ := Kd.R_slice HO129.out; subst eo11; have p130 : 0 ≤ (0 : Int) := (by omega); have q130 : 0 < (t127.length : Int) := of_decide_eq_true (by first | (with_reducible assumption) | assumption); obtain ⟨ad130, e130, hx130_0, hx130_1⟩ := at_T44 (Kd.R_reads' HO129.out).2.2 0 p130 q130; cases e130; have qi130 : (0 < t127.length) = True := eq_true (by omega); (try rw [show ((0 : Int)).toNat = 0 from rfl] at hx130_0); (try rw [show 0 * 2 = 0 from rfl] at hx130_0); (try rw [Addr.add_zero'] at hx130_0); (try rw [show ((0 : Int)).toNat = 0 from rfl] at hx130_1); (try rw [show 0 * 2 = 0 from rfl] at hx130_1); (try rw [Addr.add_zero'] at hx130_1); replace p130 := eq_true p130; replace q130 := eq_true q130; have hcz12_0 : w10.cell? ⟨gb126, 0, none⟩ = some (.int .i64 0) := (blk_cell BK126.out 0).trans rfl; have hcz12_1 : w10.cell? ⟨gb126, 1, none⟩ = some (.int .i64 0) := (blk_cell BK126.out 1).trans rfl; have hfz12_0 := blk_frozen BK126.out 0; have hfz12_1 := blk_frozen BK126.out 1))
      refine bodyPost_ret (results_cell_row rfl _ _ gb126 44 #[.int .i64 ((rd_T44 t127 0).f0), .int .i64 ((rd_T44 t127 0).f1)] (0, 0) _ rfl (by (with_reducible repeat (first | refine blk_drewN ?_ _ | refine blk_drew ?_ | refine blk_alloc ?_ _)); refine blk_put (cs := #[.int .i64 ((rd_T44 t127 0).f0), .int .i64 0]) ?_ 1 _ rfl; (with_reducible repeat (first | refine blk_drewN ?_ _ | refine blk_drew ?_ | refine blk_alloc ?_ _)); refine blk_put (cs := #[.int .i64 0, .int .i64 0]) ?_ 0 _ rfl; (with_reducible repeat (first | refine blk_drewN ?_ _ | refine blk_drew ?_ | refine blk_alloc ?_ _)); exact BK126.out) Tryd.underlying44 rfl (by kernel_rfl)) rfl ?_
      exact ⟨by first | rfl | (simp [errW_none, errW_some] <;> rfl) | (simp [*, errW_none, errW_some] <;> rfl), by repeat (first | (with_reducible first | exact HB.out | apply below_alloc | apply pw_below_drewN | apply below_drew1 | refine below_set ?_ GE126.out) | exact HB.out)⟩
    · rw [if_neg c8] at H
      exact absurd H (by simp)

/-! ### shape_Well: function 36 -/
def shape_Well.f (l0 : List (S37)) : Option (Bool) := (shape_Faults.f l0).bind fun t131 => (some ((t131.length : Int) == 0))
set_option maxHeartbeats 8000000 in
set_option maxRecDepth 100000 in
theorem shape_Well.calls (A0 : Option Addr) (c0 : Nat) (l0 : List (S37)) (r : Bool) (w : World) (hr0 : Kd.C k37 w A0 l0.length l0) (hc0 : l0.length ≤ c0) (h : shape_Well.f l0 = some r) :
    Calls Tryd.prog 36 #[.slice A0 l0.length c0] w fun e w' => e = .returned (.bool r) ∧ Below w.heap.size w w' := by
  have HR0 := Aside0.mk hr0
  have HC0 := Aside0.mk hc0
  clear hr0 hc0
  have HB := Aside0.mk (Below.refl w.heap.size w)
  have H : ((shape_Faults.f l0).bind fun t131 => (some ((t131.length : Int) == 0))) = some r := h
  clear h
  replace H := Option.bind_eq_some_iff.mp H
  obtain ⟨t131, A20, H⟩ := H
  replace H : (some ((t131.length : Int) == 0)) = some r := H
  have A2 := Aside0.mk A20
  clear A20
  obtain rfl := Option.some.inj H
  go_enter Tryd.func36, Tryd.ntmps36
  go_wp2_with (first | ((with_reducible refine gate_callee (f := 34) rfl ?_); refine goesL_ (some 4) rfl rfl Tryd.func34 (by kernel_rfl) rfl #[.slice A0 l0.length c0] rfl (by (try simp only [List.map_toArray, List.map_cons, List.map_nil]); first | done | rfl | (simp only [List.length_drop, List.length_take]; rfl)) ?_; (with_reducible refine (shape_Faults.calls _ _ l0 t131 _ ?side1 ?side2 A2.out).mono ?_); (case side1 => repeat (first | exact HR0.out | (with_reducible refine Kd.C_alloc ?_ _) | (with_reducible refine Kd.C_drewN ?_ _) | (with_reducible refine Kd.C_drew ?_))); (case side2 => exact HC0.out); rintro e w3 ⟨v132, rfl, ho0, hb⟩; refine ⟨_, rfl, ?_⟩; have n0_ := Aside0.mk (Kd.R_lower ho0 (below_size (by repeat (first | (with_reducible first | exact HB.out | apply below_alloc | apply pw_below_drewN | apply below_drew1) | exact HB.out)))); have n1_ := Aside0.mk (below_step (by repeat (first | (with_reducible first | exact HB.out | apply below_alloc | apply pw_below_drewN | apply below_drew1) | exact HB.out)) hb); clear HB; have HO133 := n0_; have HB := n1_; clear n0_ n1_; (try clear hb); (try clear hb2); (try clear hk); (try clear hi); (try clear ho0); obtain ⟨Ao4, co4, eo4⟩ := Kd.R_slice HO133.out; subst eo4))
  go_ret
  exact ⟨by first | rfl | (simp [errW_none, errW_some] <;> rfl) | (simp [*, errW_none, errW_some] <;> rfl), by repeat (first | (with_reducible first | exact HB.out | apply below_alloc | apply pw_below_drewN | apply below_drew1) | exact HB.out)⟩

end Go.Proofs.YtjlpaagnajmogaaDoor.PForm
