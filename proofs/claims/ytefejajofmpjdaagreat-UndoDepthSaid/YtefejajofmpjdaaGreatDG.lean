/-
  As many changes as can be undone, and more. Part 7 of 10.
-/
import Derived.Test.YtefejajofmpjdaaGreatDF
import Derived.Laws.ResultCell
import Derived.Laws.Tables
import Derived.Deep.Cut
import Derived.Shelf.SlSortCmp.NoneTotal
section
namespace Go.Proofs.YtefejajofmpjdaaGreat.PWalk
open Go.RowKit Go.Proofs.YtefejajofmpjdaaGreatW.PrintWords Go.Proofs.YtefejajofmpjdaaGreatW.PrintLast Go.Proofs.YtefejajofmpjdaaGreatW.PrintMore
set_option linter.unusedVariables false
set_option linter.unusedSimpArgs false
open Go.Shelf
attribute [local go_sem] Oper.semAt_some
section
abbrev LostE := S68
abbrev RL (W : World) (base : Nat) (u : Value) (xs : List LostE) : Prop := Kd.R k68 68 W base (fun _ => True) u xs
abbrev chgC (u v : Value) : Obj := .cells #[u, v] 28 (0, 0)
def wellB (l : List Node) : Bool := (faultsOf l).isEmpty
def ofStep (s d : List Node) (c : List Dot × List LostE) (x : Node) : List Dot × List LostE :=
 match MapLaw.mget (nodesM d) x.f0 with
 | none => c
 | some y => match MapLaw.mget (nodesM s) x.f0 with
  | none => if y.f3 = 0 then c else (c.1 ++ [x.f0], c.2)
  | some o => if o.f3 ≠ 0 ∧ y.f3 = 0 then (c.1, c.2 ++ [⟨x.f0, o.f3⟩]) else c
def ofC (s d j : List Node) : List Dot × List LostE := ((ordOf j).map (·.2)).foldl (ofStep s d) ([], [])
def undoOfR (s d : List Node) : List Dot × List LostE × Int :=
 if storeOk s = true ∧ storeOk d = true ∧ wellB s = true then
  match joinOf s d with
  | none => ([], [], 15)
  | some j => if wellB j = true then ((ofC s d j).1, (ofC s d j).2, 0) else ([], [], 8)
 else ([], [], 2)
def undo_Of.f (l0 l1 : List Node) : Option (List Dot × List LostE × Int) := if l0.length + l1.length ≤ 300000 then some (undoOfR l0 l1) else none
theorem well_is {l : List Node} (hl : l.length ≤ 1000000) : shape_Well.f l = some (wellB l) := by
 unfold wellB
 cases h : (faultsOf l).isEmpty with
 | true => exact well_yes hl (List.isEmpty_iff.1 h)
 | false => exact well_no hl fun e => by rw [e] at h; cases h
theorem wellB_ok {l : List Node} (h : wellB l = true) : storeOk l = true := well_store (List.isEmpty_iff.1 h)
theorem joinN_len : ∀ (k : Nat) (l m r : List Node), joinN k l m = some r → r.length ≤ l.length + m.length
 | k, [], m, r, h => by rw [joinN_nil] at h; cases h; simp
 | k, l, [], r, h => by rw [joinN_nil2] at h; cases h; simp
 | 0, x :: l, y :: m, r, h => by simp [joinN] at h <;> (try (subst h; simp)) <;> (try omega)
 | k + 1, x :: l, y :: m, r, h => by
  rw [joinN_cons] at h
  split at h
  ·
   obtain ⟨q, hq, rfl⟩ := Option.map_eq_some_iff.1 h
   have := joinN_len k _ _ _ hq
   simp only [List.length_cons] at this ⊢; omega
  ·
   split at h
   ·
    obtain ⟨q, hq, rfl⟩ := Option.map_eq_some_iff.1 h
    have := joinN_len k _ _ _ hq
    simp only [List.length_cons] at this ⊢; omega
   ·
    obtain ⟨z, _, h⟩ := Option.bind_eq_some_iff.1 h
    obtain ⟨q, hq, rfl⟩ := Option.map_eq_some_iff.1 h
    have := joinN_len k _ _ _ hq
    simp only [List.length_cons] at this ⊢; omega
theorem joinOf_len {l m r : List Node} (h : joinOf l m = some r) : r.length ≤ l.length + m.length := joinN_len _ _ _ _ h
theorem infoC : (Tryz.prog.info? 28).map (fun i => (i.zero, i.size, i.bytes)) = some (some (.agg #[.slice none 0 0, .slice none 0 0]), 2, 48) := by kernel_rfl
theorem results_chg {fn : Func} {p u : Tmp} (h : fn.results = #[.cell p 28, .tmp u]) (tmps : Array Value) (w : World) (g : Nat) (c0 c1 : Value)
  (hp : tmps.getD p undef = .pointer (some ⟨g, 0, none⟩)) (hg : w.heap[g]? = some (chgC c0 c1)) :
  (results fn tmps).run Tryz.prog w = .ok (.tuple #[.agg #[c0, c1], tmps.getD u undef]) w := by
 rw [Go.results_cell_tmp h, hp]
 have h2 := run_loadVar_row (P := Tryz.prog) w g 28 28 #[c0, c1] (0, 0) _ hg Tryz.underlying28 rfl (by kernel_rfl)
 simp [asAddr, h2]
section
variable {ops : Array Oper} {rest : List Oper} {o : Oper} {a : Act} {Q : Exit → Act → World → Prop}
theorem zat (hgd : o.guard = none) (s x : Operand) (ho : o.op = .store 28 s x) (hd : o.dst = none) {w : World} {g : Nat} {c0 c1 : Value}
  (hg : w.heap[g]? = some (chgC c0 c1)) (u v : Value) (hs : a.eval s = .pointer (some ⟨g, 0, none⟩)) (hx : a.eval x = .agg #[u, v]) (hu : u.oneCell' = true) (hv : v.oneCell' = true)
  (hk : ∀ w', w'.heap[g]? = some (chgC u v) → w.grownBy w' (some g) → wpList Tryz.prog ops Q rest a w') : wpList Tryz.prog ops Q (o :: rest) a w := by
 obtain ⟨i0, hi0, hz0, hz1, hz2⟩ := info_parts infoC
 refine wpList_store_row hgd 28 s x ho g _ hs hx 28 _ hg (by rw [hi0]; show some i0.size = some 2; rw [hz1]) rfl (Array.all_eq_true_iff_forall_mem.2 (by intro q hq; simp at hq; rcases hq with rfl | rfl <;> assumption)) ?_
 rw [hd]
 exact hk _ (setRow_at hg _) (setRow_grown w g _)
end
theorem lk_node (m : List (Dot × Node)) (d : Dot) {o : Node} (h : (MapLaw.mget m d).getD nodeZ = o) :
  ((MapLaw.mget m d).map vNode).getD (.agg #[.int .i64 0, .int .i64 0, .int .i64 0, .int .i64 0, .int .i64 0, .int .i32 0]) = .agg #[.int .i64 o.f0.f0, .int .i64 o.f0.f1, .int .i64 o.f1.f0, .int .i64 o.f1.f1, .int .i64 o.f2, .int .i32 o.f3] := by
 subst h
 cases MapLaw.mget m d <;> rfl
theorem RL.block {W : World} {b g : Nat} {u : Value} {xs : List LostE} (h : RL W b u xs) (hg : u.ownBlock = some g) : b ≤ g ∧ ∃ cur, W.heap[g]? = some (.cells cur 68 (0, 0)) := by
 obtain ⟨inner, ho⟩ := Kd.R_own h
 rcases ho.2 with ⟨rfl, _⟩ | ⟨g', c, cur, rfl, hb, hcur, _⟩
 ·
  cases hg
 ·
  cases hg; exact ⟨hb, cur, hcur⟩
theorem RL.keep {W V : World} {b : Nat} {u : Value} {xs : List LostE} (h : RL W b u xs) (hk : ∀ g, u.ownBlock = some g → V.heap[g]? = W.heap[g]?) : RL V b u xs := by
 obtain ⟨h1, inner, ho, hr⟩ := h
 exact ⟨h1, inner, ownsRow_keep ho hk, hr.1, fun j p hj => by have h2 := hr.2 j p hj; rw [k68_openM h2]; exact k68_mkM _ _ _ _⟩
/-- What the loop of undo.Of keeps. -/
structure OfF (W1 : World) (gc : Nat) (u v : Value) (c : List Dot × List LostE) (V : World) : Prop where
 bc : V.heap[gc]? = some (chgC u v)
 rd : RD V W1.heap.size u c.1
 rl : RL V W1.heap.size v c.2
 below : Below W1.heap.size W1 V
theorem OfF.more {W1 : World} {gc : Nat} {u v : Value} {c : List Dot × List LostE} {V V' : World} (h : OfF W1 gc u v c V) (hb : Below V.heap.size V V') : OfF W1 gc u v c V' :=
 ⟨zab h.bc hb, RD.below' h.rd hb, Kd.R_below h.rl hb, za8 h.below hb⟩
theorem OfF.putD {W1 : World} {gc : Nat} {u v u2 : Value} {c : List Dot × List LostE} {ys : List Dot} {V V2 : World} (h : OfF W1 gc u v c V) (hB : W1.heap.size ≤ gc) (hr : RD V2 W1.heap.size u2 ys) (hg : V.grownBy V2 u.ownBlock) :
  OfF W1 gc u2 v (ys, c.2) (V2.setCell ⟨gc, 0, none⟩ u2) := by
 have hne : some gc ≠ u.ownBlock := fun e => by obtain ⟨_, cur, hc⟩ := h.rd.block e.symm; rw [h.bc] at hc; exact absurd (Obj.cells.inj (Option.some.inj hc)).2.1 (by decide)
 have hb2 : V2.heap[gc]? = some (chgC u v) := (hg.block gc (zae h.bc) hne).trans h.bc
 have hn2 : ∀ g, u2.ownBlock = some g → g ≠ gc := fun g hg e => by subst e; obtain ⟨_, cur, hc⟩ := hr.block hg; rw [hb2] at hc; exact absurd (Obj.cells.inj (Option.some.inj hc)).2.1 (by decide)
 refine ⟨blk_set hb2 0 _, hr.keep fun g hg => zav (hn2 g hg), h.rl.keep fun g hgg => ?_, below_setCell (h.below.grown hg (Nat.le_trans hB (Nat.le_of_lt (zae h.bc))) (fun k e => (h.rd.block e).1)) hB 0 u2⟩
 obtain ⟨_, cur, hc⟩ := h.rl.block hgg
 have h1 : g ≠ gc := fun e => by subst e; rw [h.bc] at hc; exact absurd (Obj.cells.inj (Option.some.inj hc)).2.1 (by decide)
 rw [zav h1]
 exact hg.block g (zae hc) fun e => by obtain ⟨_, cur2, hc2⟩ := h.rd.block e.symm; rw [hc] at hc2; exact absurd (Obj.cells.inj (Option.some.inj hc2)).2.1 (by decide)
theorem OfF.putL {W1 : World} {gc : Nat} {u v v2 : Value} {c : List Dot × List LostE} {ys : List LostE} {V V2 : World} (h : OfF W1 gc u v c V) (hB : W1.heap.size ≤ gc) (hr : RL V2 W1.heap.size v2 ys) (hg : V.grownBy V2 v.ownBlock) :
  OfF W1 gc u v2 (c.1, ys) (V2.setCell ⟨gc, 1, none⟩ v2) := by
 have hne : some gc ≠ v.ownBlock := fun e => by obtain ⟨_, cur, hc⟩ := h.rl.block e.symm; rw [h.bc] at hc; exact absurd (Obj.cells.inj (Option.some.inj hc)).2.1 (by decide)
 have hb2 : V2.heap[gc]? = some (chgC u v) := (hg.block gc (zae h.bc) hne).trans h.bc
 have hn2 : ∀ g, v2.ownBlock = some g → g ≠ gc := fun g hg e => by subst e; obtain ⟨_, cur, hc⟩ := hr.block hg; rw [hb2] at hc; exact absurd (Obj.cells.inj (Option.some.inj hc)).2.1 (by decide)
 refine ⟨blk_set hb2 1 _, h.rd.keep fun g hgg => ?_, hr.keep fun g hg => zav (hn2 g hg), below_setCell (h.below.grown hg (Nat.le_trans hB (Nat.le_of_lt (zae h.bc))) (fun k e => (h.rl.block e).1)) hB 1 v2⟩
 obtain ⟨_, cur, hc⟩ := h.rd.block hgg
 have h1 : g ≠ gc := fun e => by subst e; rw [h.bc] at hc; exact absurd (Obj.cells.inj (Option.some.inj hc)).2.1 (by decide)
 rw [zav h1]
 exact hg.block g (zae hc) fun e => by obtain ⟨_, cur2, hc2⟩ := h.rl.block e.symm; rw [hc] at hc2; exact absurd (Obj.cells.inj (Option.some.inj hc2)).2.1 (by decide)
theorem app_dot1 {ops : Array Oper} {rest : List Oper} {o : Oper} {a : Act} {Q : Exit → Act → World → Prop} {W : World} (base : Nat) (hgd : o.guard = none) (s x : Operand)
  (ho : o.op = .call { callee := .builtin .append, args := #[s, x], argTypes := #[25, 25] }) (v : Value) (xs : List Dot) (p : Dot) (hs : a.eval s = v) (hx : a.eval x = .slice (some ⟨W.heap.size, 0, none⟩) 1 1)
  (hr : RD W base v xs) (hb : base ≤ W.heap.size) (hl : xs.length ≤ 1000000)
  (h : ∀ v1 w1, RD w1 base v1 (xs ++ [p]) → W.grownBy w1 v.ownBlock → wpList Tryz.prog ops Q rest (a.put o.dst v1) w1) : wpList Tryz.prog ops Q (o :: rest) a (W.alloc (.cells #[.int .i64 p.f0, .int .i64 p.f1] 39)) := by
 refine Kd.R_append k39 (w0 := W) base hgd s x 25 39 (.agg #[(.int .i64 0), (.int .i64 0)]) 16 ho Tryz.underlying25 info39 rfl (by decide) (by decide) v xs p [.int .i64 p.f0, .int .i64 p.f1] (fun _ => True) (fun _ => False) hs hx (k39_mkM _ _ _ p) (fun _ hk => hk.elim) (fun _ _ => trivial) hr (Below.refl _ _) hb (by omega) ?_
 intro v1 w1 h1 _ h3 _
 exact h v1 w1 h1 h3
theorem app_lost1 {ops : Array Oper} {rest : List Oper} {o : Oper} {a : Act} {Q : Exit → Act → World → Prop} {W : World} (base : Nat) (hgd : o.guard = none) (s x : Operand)
  (ho : o.op = .call { callee := .builtin .append, args := #[s, x], argTypes := #[26, 26] }) (v : Value) (xs : List LostE) (p : LostE) (hs : a.eval s = v) (hx : a.eval x = .slice (some ⟨W.heap.size, 0, none⟩) 1 1)
  (hr : RL W base v xs) (hb : base ≤ W.heap.size) (hl : xs.length ≤ 1000000)
  (h : ∀ v1 w1, RL w1 base v1 (xs ++ [p]) → W.grownBy w1 v.ownBlock → wpList Tryz.prog ops Q rest (a.put o.dst v1) w1) : wpList Tryz.prog ops Q (o :: rest) a (W.alloc (.cells #[.int .i64 p.f0.f0, .int .i64 p.f0.f1, .int .i32 p.f1] 68)) := by
 refine Kd.R_append k68 (w0 := W) base hgd s x 26 68 (.agg #[(.int .i64 0), (.int .i64 0), (.int .i32 0)]) 24 ho Tryz.underlying26 info68 rfl (by decide) (by decide) v xs p [.int .i64 p.f0.f0, .int .i64 p.f0.f1, .int .i32 p.f1] (fun _ => True) (fun _ => False) hs hx (k68_mkM _ _ _ p) (fun _ hk => hk.elim) (fun _ _ => trivial) hr (Below.refl _ _) hb (by omega) ?_
 intro v1 w1 h1 _ h3 _
 exact h v1 w1 h1 h3
theorem OfF.neD {W1 V : World} {gc : Nat} {u v : Value} {c : List Dot × List LostE} (h : OfF W1 gc u v c V) : some gc ≠ u.ownBlock := fun e => by obtain ⟨_, cur, hc⟩ := h.rd.block e.symm; rw [h.bc] at hc; exact absurd (Obj.cells.inj (Option.some.inj hc)).2.1 (by decide)
theorem OfF.neL {W1 V : World} {gc : Nat} {u v : Value} {c : List Dot × List LostE} (h : OfF W1 gc u v c V) : some gc ≠ v.ownBlock := fun e => by obtain ⟨_, cur, hc⟩ := h.rl.block e.symm; rw [h.bc] at hc; exact absurd (Obj.cells.inj (Option.some.inj hc)).2.1 (by decide)
theorem ofStep_len (s d : List Node) : ∀ (O : List Node) (c : List Dot × List LostE), (O.foldl (ofStep s d) c).1.length ≤ c.1.length + O.length ∧ (O.foldl (ofStep s d) c).2.length ≤ c.2.length + O.length
 | [], c => by simp
 | x :: O, c => by
  rw [List.foldl_cons]
  have h := ofStep_len s d O (ofStep s d c x)
  have h1 : (ofStep s d c x).1.length ≤ c.1.length + 1 ∧ (ofStep s d c x).2.length ≤ c.2.length + 1 := by
   unfold ofStep
   split
   ·
    simp
   ·
    split <;> split <;> simp
  simp only [List.length_cons]
  omega
theorem ofStep_take {s d O : List Node} {k : Nat} {x : Node} (h : O[k]? = some x) : (O.take (k + 1)).foldl (ofStep s d) ([], []) = ofStep s d ((O.take k).foldl (ofStep s d) ([], [])) x := by
 obtain ⟨hk, e⟩ := List.getElem?_eq_some_iff.1 h
 rw [List.take_succ_eq_append_getElem hk, List.foldl_append, e]; rfl
set_option maxHeartbeats 4000000 in
set_option maxRecDepth 100000 in
theorem undo_Of.calls (A0 : Option Addr) (c0 : Nat) (l0 : List Node) (A1 : Option Addr) (c1 : Nat) (l1 : List Node) (r1 : List Dot) (r2 : List LostE) (r3 : Int) (w : World) (hr0 : Kd.C k42 w A0 l0.length l0) (hc0 : l0.length ≤ c0) (hr1 : Kd.C k42 w A1 l1.length l1) (hc1 : l1.length ≤ c1) (h : undo_Of.f l0 l1 = some (r1, r2, r3)) :
  Calls Tryz.prog 16 #[.slice A0 l0.length c0, .slice A1 l1.length c1] w fun e w' => ∃ v0 v1 : Value, e = .returned (.tuple #[.agg #[v0, v1], .int .i64 r3]) ∧ Kd.R k39 39 w' w.heap.size (fun _ => True) v0 r1 ∧ Kd.R k68 68 w' w.heap.size (fun _ => True) v1 r2 ∧ Below w.heap.size w w' := by
 unfold undo_Of.f at h
 by_cases hl : l0.length + l1.length ≤ 300000
 rotate_left
 ·
  rw [if_neg hl] at h; cases h
 rw [if_pos hl] at h
 have HRES := za0.mk (Option.some.inj h)
 have HL := za0.mk hl
 have HR0 := za0.mk hr0
 have HR1 := za0.mk hr1
 obtain ⟨b0, Hb0⟩ : ∃ b, za0 (storeOk l0 = b) := ⟨_, ⟨rfl⟩⟩
 obtain ⟨b1, Hb1⟩ : ∃ b, za0 (storeOk l1 = b) := ⟨_, ⟨rfl⟩⟩
 obtain ⟨b2, Hb2⟩ : ∃ b, za0 (wellB l0 = b) := ⟨_, ⟨rfl⟩⟩
 obtain ⟨jr, Hjr⟩ : ∃ b, za0 (joinR l0 l1 = b) := ⟨_, ⟨rfl⟩⟩
 have HV0 := za0.mk (fun W (hb : Below w.heap.size w W) => join_Valid.calls A0 c0 l0 b0 W (Kd.C_below hr0 hb) hc0 (by unfold join_Valid.f store_Valid.f; rw [if_pos (by omega), Hb0.out]; rfl))
 have HV1 := za0.mk (fun W (hb : Below w.heap.size w W) => join_Valid.calls A1 c1 l1 b1 W (Kd.C_below hr1 hb) hc1 (by unfold join_Valid.f store_Valid.f; rw [if_pos (by omega), Hb1.out]; rfl))
 have HW0 := za0.mk (fun W (hb : Below w.heap.size w W) => shape_Well.calls A0 c0 l0 b2 W (Kd.C_below hr0 hb) hc0 (by rw [well_is (by omega), Hb2.out]))
 have HJ := za0.mk (fun W (hb : Below w.heap.size w W) => join_Join.calls A0 c0 l0 A1 c1 l1 jr.1 jr.2 W (Kd.C_below hr0 hb) hc0 (Kd.C_below hr1 hb) hc1 (by unfold join_Join.f; rw [if_pos (by omega), Hjr.out]))
 have HM0 := za0.mk (fun W (hb : Below w.heap.size w W) => nodes_call A0 l0.length c0 l0 W (Kd.C_below hr0 hb) rfl (by omega))
 have HM1 := za0.mk (fun W (hb : Below w.heap.size w W) => nodes_call A1 l1.length c1 l1 W (Kd.C_below hr1 hb) rfl (by omega))
 have hu := Tryz.underlying42
 have hu2 := Tryz.underlying39
 have hu3 := Tryz.underlying28
 obtain ⟨n0, Hn0⟩ : ∃ n, za0 (l0.length = n) := ⟨_, ⟨rfl⟩⟩
 obtain ⟨n1, Hn1⟩ : ∃ n, za0 (l1.length = n) := ⟨_, ⟨rfl⟩⟩
 rw [Hn0.out] at HV0 HW0 HJ HM0
 rw [Hn1.out] at HV1 HJ HM1
 rw [Hn0.out, Hn1.out]
 clear h hl hr0 hr1 hc0 hc1
 have HZ := za0.mk (zaj w (chgC (.slice none 0 0) (.slice none 0 0)))
 have HB := za0.mk (za2 (Below.refl _ w) (chgC (.slice none 0 0) (.slice none 0 0)))
 go_enter Tryz.func16, Tryz.ntmps16
 go_wp2_with fail
 refine (HV0.out _ HB.out).mono ?_
 rintro e V0 ⟨rfl, hb⟩
 have HZ := za0.mk (zab HZ.out hb)
 have HB := za0.mk (za8 HB.out hb)
 clear hb HV0
 cases b0
 ·
  clear HV1 HW0 HJ HM0 HM1 Hb1 Hb2 Hjr
  go_wp2_with (first | (refine zat rfl _ _ rfl rfl HZ.out (.slice none 0 0) (.slice none 0 0) rfl rfl rfl rfl ?_; intro V1 hz1 hg1) | fail)
  have HB := za0.mk (grown_on hg1 HB.out (fun k e => by have := Option.some.inj e; omega))
  have HZ := za0.mk hz1
  refine bodyPost_ret (results_chg rfl _ _ _ _ _ rfl HZ.out) rfl ?_
  have h := HRES.out
  unfold undoOfR at h
  rw [if_neg (fun h => by have := h.1; rw [Hb0.out] at this; cases this)] at h
  cases h
  exact ⟨_, _, rfl, Kd.R_nil _ _ _ _ _, Kd.R_nil _ _ _ _ _, HB.out⟩
 go_wp2_with fail
 refine (HV1.out V0 HB.out).mono ?_
 rintro e V1 ⟨rfl, hb⟩
 have HZ := za0.mk (zab HZ.out hb)
 have HB := za0.mk (za8 HB.out hb)
 clear hb HV1
 cases b1
 ·
  clear HW0 HJ HM0 HM1 Hb2 Hjr
  go_wp2_with (first | (refine zat rfl _ _ rfl rfl HZ.out (.slice none 0 0) (.slice none 0 0) rfl rfl rfl rfl ?_; intro V9 hz1 hg1) | fail)
  have HB := za0.mk (grown_on hg1 HB.out (fun k e => by have := Option.some.inj e; omega))
  have HZ := za0.mk hz1
  refine bodyPost_ret (results_chg rfl _ _ _ _ _ rfl HZ.out) rfl ?_
  have h := HRES.out
  unfold undoOfR at h
  rw [if_neg (fun h => by have := h.2.1; rw [Hb1.out] at this; cases this)] at h
  cases h
  exact ⟨_, _, rfl, Kd.R_nil _ _ _ _ _, Kd.R_nil _ _ _ _ _, HB.out⟩
 go_wp2_with fail
 refine (HW0.out V1 HB.out).mono ?_
 rintro e V2 ⟨rfl, hb⟩
 have HZ := za0.mk (zab HZ.out hb)
 have HB := za0.mk (za8 HB.out hb)
 clear hb HW0
 cases b2
 ·
  clear HJ HM0 HM1 Hjr
  go_wp2_with (first | (refine zat rfl _ _ rfl rfl HZ.out (.slice none 0 0) (.slice none 0 0) rfl rfl rfl rfl ?_; intro V9 hz1 hg1) | fail)
  have HB := za0.mk (grown_on hg1 HB.out (fun k e => by have := Option.some.inj e; omega))
  have HZ := za0.mk hz1
  refine bodyPost_ret (results_chg rfl _ _ _ _ _ rfl HZ.out) rfl ?_
  have h := HRES.out
  unfold undoOfR at h
  rw [if_neg (fun h => by have := h.2.2; rw [Hb2.out] at this; cases this)] at h
  cases h
  exact ⟨_, _, rfl, Kd.R_nil _ _ _ _ _, Kd.R_nil _ _ _ _ _, HB.out⟩
 have HRJ : za0 ((match joinOf l0 l1 with | none => ([], [], 15) | some j => if wellB j = true then ((ofC l0 l1 j).1, (ofC l0 l1 j).2, 0) else ([], [], 8)) = (r1, r2, r3)) := ⟨by
  have := HRES.out; unfold undoOfR at this; rwa [if_pos ⟨Hb0.out, Hb1.out, Hb2.out⟩] at this⟩
 have HJ2 : za0 ((match joinOf l0 l1 with | some r => (r, (0 : Int)) | none => ([], 15)) = jr) := ⟨by
  have := Hjr.out; unfold joinR at this; rwa [if_pos ⟨Hb0.out, Hb1.out⟩] at this⟩
 clear HRES Hjr Hb0 Hb1 Hb2
 go_wp2_with fail
 refine (HJ.out V2 HB.out).mono ?_
 rintro e V3 ⟨vj, rfl, hrj, hb⟩
 have HVJ := za0.mk hrj
 have HZ := za0.mk (zab HZ.out hb)
 have HB := za0.mk (za8 HB.out hb)
 clear hb hrj HJ
 cases hjo : joinOf l0 l1 with
 | none =>
  clear HM0 HM1
  have HJO := za0.mk hjo
  clear hjo
  have h2 := HJ2.out
  rw [HJO.out] at h2
  subst h2
  go_wp2_with (first | (refine zat rfl _ _ rfl rfl HZ.out (.slice none 0 0) (.slice none 0 0) rfl rfl rfl rfl ?_; intro V9 hz1 hg1) | fail)
  have HB := za0.mk (grown_on hg1 HB.out (fun k e => by have := Option.some.inj e; omega))
  have HZ := za0.mk hz1
  refine bodyPost_ret (results_chg rfl _ _ _ _ _ rfl HZ.out) rfl ?_
  have h := HRJ.out
  rw [HJO.out] at h
  cases h
  exact ⟨_, _, rfl, Kd.R_nil _ _ _ _ _, Kd.R_nil _ _ _ _ _, HB.out⟩
 | some j =>
  have HJO := za0.mk hjo
  clear hjo
  have h2 := HJ2.out
  rw [HJO.out] at h2
  subst h2
  have h := HRJ.out
  rw [HJO.out] at h
  have HRJ := za0.mk h
  clear h HJ2
  have HLJ : za0 (j.length ≤ 300000) := ⟨by have := joinOf_len HJO.out; have := HL.out; have := Hn0.out; have := Hn1.out; omega⟩
  obtain ⟨Aj, cj, rfl, hcj, hCj⟩ := Kd.R_reads HVJ.out
  have HCJ := za0.mk hCj
  obtain ⟨b3, Hb3⟩ : ∃ b, za0 (wellB j = b) := ⟨_, ⟨rfl⟩⟩
  have HWJ := za0.mk (fun W (hb : Below V3.heap.size V3 W) => shape_Well.calls Aj cj j b3 W (Kd.C_below hCj hb) hcj (by rw [well_is (by have := HLJ.out; omega), Hb3.out]))
  have HOJ := za0.mk (fun W (hb : Below V3.heap.size V3 W) (hs : storeOk j = true) => walk_Order.calls Aj cj j ((ordOf j).map (·.2)) 0 W (Kd.C_below hCj hb) hcj (by unfold walk_Order.f; rw [if_pos (by have := HLJ.out; omega), if_pos hs]))
  clear hcj hCj HVJ
  go_wp2_with fail
  refine (HWJ.out V3 (Below.refl _ _)).mono ?_
  rintro e V4 ⟨rfl, hb⟩
  have HZ := za0.mk (zab HZ.out hb)
  have HB := za0.mk (za8 HB.out hb)
  have HB3 := za0.mk hb
  clear hb HWJ
  cases b3
  ·
   clear HM0 HM1
   go_wp2_with (first | (refine zat rfl _ _ rfl rfl HZ.out (.slice none 0 0) (.slice none 0 0) rfl rfl rfl rfl ?_; intro V9 hz1 hg1) | fail)
   have HB := za0.mk (grown_on hg1 HB.out (fun k e => by have := Option.some.inj e; omega))
   have HZ := za0.mk hz1
   refine bodyPost_ret (results_chg rfl _ _ _ _ _ rfl HZ.out) rfl ?_
   have h := HRJ.out
   rw [if_neg (by rw [Hb3.out]; decide)] at h
   cases h
   exact ⟨_, _, rfl, Kd.R_nil _ _ _ _ _, Kd.R_nil _ _ _ _ _, HB.out⟩
  have h := HRJ.out
  rw [if_pos Hb3.out] at h
  have HRJ := za0.mk h
  clear h
  go_wp2_with fail
  refine (HOJ.out V4 HB3.out (wellB_ok Hb3.out)).mono ?_
  rintro e V5 ⟨vo, rfl, hro, hb⟩
  have HLO : za0 (((ordOf j).map (·.2)).length ≤ 300000) := ⟨by rw [List.length_map]; have := ord_le (store_of (wellB_ok Hb3.out)); have := HLJ.out; omega⟩
  have HOC : za0 (((ordOf j).map (·.2)).foldl (ofStep l0 l1) ([], []) = ofC l0 l1 j) := ⟨rfl⟩
  obtain ⟨O, HO⟩ : ∃ O, za0 ((ordOf j).map (·.2) = O) := ⟨_, ⟨rfl⟩⟩
  rw [HO.out] at hro HLO HOC
  obtain ⟨Ao, co, rfl, hco, hCo⟩ := Kd.R_reads hro
  have HCO := za0.mk hCo
  have HZ := za0.mk (zab HZ.out hb)
  have HB := za0.mk (za8 HB.out hb)
  obtain ⟨no, Hno⟩ : ∃ n, za0 (O.length = n) := ⟨_, ⟨rfl⟩⟩
  rw [Hno.out]
  rw [Hno.out] at HLO HCO
  clear hb HOJ hro hCo hco
  go_wp2_with fail
  refine (HM0.out V5 HB.out).mono ?_
  rintro e V6 ⟨ga, rfl, hga, hma, hb⟩
  have HMA := za0.mk hma
  have HCO := za0.mk (Kd.C_below HCO.out hb)
  have HZ := za0.mk (zab HZ.out hb)
  have HB := za0.mk (za8 HB.out hb)
  clear hb hma HM0 hga
  go_wp2_with fail
  refine (HM1.out V6 HB.out).mono ?_
  rintro e V7 ⟨gb, rfl, hgb, hmb, hb⟩
  have HMB := za0.mk hmb
  have HMA := za0.mk (HMA.out.below hb)
  have HCO := za0.mk (Kd.C_below HCO.out hb)
  have HZ := za0.mk (zab HZ.out hb)
  have HB := za0.mk (za8 HB.out hb)
  clear hb hmb HM1 hgb
  have HF0 : za0 (OfF V7 V7.heap.size (.slice none 0 0) (.slice none 0 0) ([], []) (V7.alloc (chgC (.slice none 0 0) (.slice none 0 0)))) := ⟨⟨zaj _ _, Kd.R_nil _ _ _ _ _, Kd.R_nil _ _ _ _ _, za2 (Below.refl _ _) _⟩⟩
  go_wp2_with fail
  go_loopw [61] (fun i wr => ∃ (k : Nat) (u v : Value), i = .int .i64 k ∧ k ≤ no ∧ za0 (OfF V7 V7.heap.size u v ((O.take k).foldl (ofStep l0 l1) ([], [])) wr)) (fun i _ => no - (intOf i).toNat)
  case atStart => exact ⟨0, _, _, rfl, Nat.zero_le _, HF0⟩
  case round =>
   obtain ⟨k, u, v, rfl, hk, HF⟩ := hrel
   by_cases hlt : k < no
   ·
    obtain ⟨x, Hx⟩ : ∃ x, za0 (O[k]? = some x) := ⟨_, ⟨List.getElem?_eq_getElem (by rw [Hno.out]; exact hlt)⟩⟩
    have HST := za0.mk (ofStep_take (s := l0) (d := l1) Hx.out)
    obtain ⟨ad, e, y0, y1, y2, y3, y4, y5⟩ := node_at HCO.out HF.out.below k x Hx.out
    subst e
    obtain ⟨old, Ho⟩ : ∃ o, za0 ((MapLaw.mget (nodesM l0) x.f0).getD nodeZ = o) := ⟨_, ⟨rfl⟩⟩
    obtain ⟨y, Hy⟩ : ∃ o, za0 ((MapLaw.mget (nodesM l1) x.f0).getD nodeZ = o) := ⟨_, ⟨rfl⟩⟩
    obtain ⟨was, Hwas⟩ : ∃ b, za0 ((MapLaw.mget (nodesM l0) x.f0).isSome = b) := ⟨_, ⟨rfl⟩⟩
    obtain ⟨is, His⟩ : ∃ b, za0 ((MapLaw.mget (nodesM l1) x.f0).isSome = b) := ⟨_, ⟨rfl⟩⟩
    have HX := za0.mk (za6 (zaj wr (boxN x)) (boxN old))
    have HKA := za0.mk (HMA.out.below (below_then HF.out.below HF.out.below.size (za2 (Below.refl _ wr) (boxN x))))
    have HKB := za0.mk (HMB.out.below (below_then HF.out.below HF.out.below.size (za8 (za2 (Below.refl _ wr) (boxN x)) (za2 (Below.refl _ (wr.alloc (boxN x))) (boxN old)))))
    go_upto_region 18 with (first | (at_lookup; refine MapLaw.wpList_lookup rfl _ _ _ true rfl dotKey Tryz.underlying76 (z := .agg #[.int .i64 0, .int .i64 0, .int .i64 0, .int .i64 0, .int .i64 0, .int .i32 0]) Tryz.zeroValue42 x.f0 rfl rfl HKA.out (lk_node _ _ Ho.out) Hwas.out ?_) | (at_lookup; refine MapLaw.wpList_lookup rfl _ _ _ true rfl dotKey Tryz.underlying76 (z := .agg #[.int .i64 0, .int .i64 0, .int .i64 0, .int .i64 0, .int .i64 0, .int .i32 0]) Tryz.zeroValue42 x.f0 rfl rfl HKB.out (lk_node _ _ Hy.out) His.out ?_) | fail)
    have HX := za0.mk (za6 HX.out (boxN y))
    have HO := za0.mk (za6 (zaj (wr.alloc (boxN x)) (boxN old)) (boxN y))
    have HY := za0.mk (zaj ((wr.alloc (boxN x)).alloc (boxN old)) (boxN y))
    have HF := za0.mk (HF.out.more (za8 (za8 (za2 (Below.refl _ wr) (boxN x)) (za2 (Below.refl _ (wr.alloc (boxN x))) (boxN old))) (za2 (Below.refl _ ((wr.alloc (boxN x)).alloc (boxN old))) (boxN y))))
    rw [show ((wr.alloc (boxN x)).alloc (boxN old)).heap.size = wr.heap.size + 1 + 1 by simp] at HY
    rw [show (wr.alloc (boxN x)).heap.size = wr.heap.size + 1 by simp] at HO
    clear y0 y1 y2 y3 y4 y5 HKA HKB
    have hkn : k < no ∧ no ≤ 300000 := ⟨hlt, HLO.out⟩
    generalize ((wr.alloc (boxN x)).alloc (boxN old)).alloc (boxN y) = V at *
    generalize wr.heap.size = gx at *
    obtain ⟨x0, x1, x2, x3, x4, x5⟩ := box_six HX.out
    obtain ⟨o0, o1, o2, o3, o4, o5⟩ := box_six HO.out
    obtain ⟨z0, z1, z2, z3, z4, z5⟩ := box_six HY.out
    obtain ⟨C, HC⟩ : ∃ C, za0 ((O.take k).foldl (ofStep l0 l1) ([], []) = C) := ⟨_, ⟨rfl⟩⟩
    have HCL : za0 (C.1.length ≤ 1000000 ∧ C.2.length ≤ 1000000) := ⟨by have := ofStep_len l0 l1 (O.take k) ([], []); rw [HC.out, List.length_take] at this; simp only [List.length_nil] at this; omega⟩
    rw [HC.out] at HST HF
    have b0 : V.cell? ⟨V7.heap.size, 0, none⟩ = some u := (za4 HF.out.bc 0).trans rfl
    have b1 : V.cell? ⟨V7.heap.size, 1, none⟩ = some v := (za4 HF.out.bc 1).trans rfl
    have HUC : za0 (ofStep l0 l1 C x = if is = true then (if was = true then (if old.f3 ≠ 0 ∧ y.f3 = 0 then (C.1, C.2 ++ [⟨x.f0, old.f3⟩]) else C) else (if y.f3 = 0 then C else (C.1 ++ [x.f0], C.2))) else C) := ⟨by
     have h1 := Hwas.out; have h2 := His.out; have h3 := Ho.out; have h4 := Hy.out
     unfold ofStep
     cases hd : MapLaw.mget (nodesM l1) x.f0 with
     | none => rw [hd] at h2; subst h2; simp
     | some yy =>
      rw [hd] at h2 h4
      cases hs : MapLaw.mget (nodesM l0) x.f0 with
      | none => rw [hs] at h1; subst h1 h2; simp at h4; subst h4; simp
      | some oo => rw [hs] at h1 h3; subst h1 h2; simp at h3 h4; subst h3 h4; simp⟩
    rw [HUC.out] at HST
    clear HUC Hwas His Ho Hy
    cases is
    ·
     clear z0 z1 z2 z3 z4 z5 o0 o1 o2 o3 o4 o5 x0 x1 x2 x3 x4 x5 b0 b1
     go_wp2
     go_roundw
     case rel => exact ⟨k + 1, u, v, by go_num, by omega, by rw [HST.out, if_neg (by decide)]; exact HF⟩
     case measure => simp [intOf]; omega
    cases was
    ·
     by_cases hy : y.f3 = 0
     ·
      have hq : (y.f3 != 0) = false := by rw [hy]; rfl
      have HUY := za0.mk hy
      clear hy o0 o1 o2 o3 o4 o5 x0 x1 x2 x3 x4 x5 b0 b1
      go_wp2
      go_roundw
      case rel => exact ⟨k + 1, u, v, by go_num, by omega, by rw [HST.out, if_pos rfl, if_neg (by decide), if_pos HUY.out]; exact HF⟩
      case measure => simp [intOf]; omega
     ·
      have hq : (y.f3 != 0) = true := bne_iff_ne.2 hy
      have HUY := za0.mk hy
      clear hy o0 o1 o2 o3 o4 o5
      go_wp2_with (first | (at_builtin; refine app_dot1 V7.heap.size rfl _ _ rfl u C.1 x.f0 rfl rfl HF.out.rd HF.out.below.size HCL.out.1 ?_; intro u2 V2 hr2 hg2; obtain ⟨A2, c2, rfl⟩ := RD.slice hr2; have hb2 := blk_grown HF.out.bc hg2 HF.out.neD; have hcz : V2.cell? ⟨V7.heap.size, 0, none⟩ = some u := (za4 hb2 0).trans rfl; have hfz := za9 hb2 0) | fail)
      have hf := HF.out.putD (Nat.le_refl _) hr2 hg2
      rw [List.length_append, List.length_singleton] at hf
      have HF := za0.mk hf
      clear hf
      clear hb2 hcz hfz hr2 hg2
      go_roundw
      case rel => exact ⟨k + 1, _, v, by go_num, by omega, by rw [HST.out, if_pos rfl, if_neg (by decide), if_neg HUY.out]; exact HF⟩
      case measure => simp [intOf]; omega
    ·
     by_cases ho : old.f3 = 0
     ·
      have hq : (old.f3 != 0) = false := by rw [ho]; rfl
      have HUO := za0.mk ho
      clear ho x0 x1 x2 x3 x4 x5 b0 b1
      go_wp2
      go_roundw
      case rel => exact ⟨k + 1, u, v, by go_num, by omega, by rw [HST.out, if_pos rfl, if_pos rfl, if_neg (fun h => h.1 HUO.out)]; exact HF⟩
      case measure => simp [intOf]; omega
     ·
      have hq : (old.f3 != 0) = true := bne_iff_ne.2 ho
      have HUO := za0.mk ho
      clear ho
      by_cases hy : y.f3 = 0
      ·
       have hq2 : (y.f3 == 0) = true := beq_iff_eq.2 hy
       have HUY := za0.mk hy
       clear hy
       go_wp2_with (first | (at_builtin; refine app_lost1 V7.heap.size rfl _ _ rfl v C.2 ⟨x.f0, old.f3⟩ rfl rfl HF.out.rl HF.out.below.size HCL.out.2 ?_; intro v2 V2 hr2 hg2; obtain ⟨A2, c2, rfl⟩ := Kd.R_slice hr2; have hb2 := blk_grown HF.out.bc hg2 HF.out.neL; have hcz : V2.cell? ⟨V7.heap.size, 1, none⟩ = some v := (za4 hb2 1).trans rfl; have hfz := za9 hb2 1) | fail)
       have hf := HF.out.putL (Nat.le_refl _) hr2 hg2
       rw [List.length_append, List.length_singleton] at hf
       have HF := za0.mk hf
       clear hf
       clear hb2 hcz hfz hr2 hg2
       go_roundw
       case rel => exact ⟨k + 1, u, _, by go_num, by omega, by rw [HST.out, if_pos rfl, if_pos rfl, if_pos ⟨HUO.out, HUY.out⟩]; exact HF⟩
       case measure => simp [intOf]; omega
      ·
       have hq2 : (y.f3 == 0) = false := beq_eq_false_iff_ne.2 hy
       have HUY := za0.mk hy
       clear hy x0 x1 x2 x3 x4 x5 b0 b1
       go_wp2
       go_roundw
       case rel => exact ⟨k + 1, u, v, by go_num, by omega, by rw [HST.out, if_pos rfl, if_pos rfl, if_neg (fun h => HUY.out h.2)]; exact HF⟩
       case measure => simp [intOf]; omega
   ·
    obtain rfl : k = no := by omega
    rw [List.take_of_length_le (Nat.le_of_eq Hno.out), HOC.out] at HF
    have h := HRJ.out
    have e1 : (ofC l0 l1 j).1 = r1 := by cases h; rfl
    have e2 : (ofC l0 l1 j).2 = r2 := by cases h; rfl
    have e3 : (0 : Int) = r3 := by cases h; rfl
    clear h
    subst e3
    have hrd := HF.out.rd
    have hrl := HF.out.rl
    rw [e1] at hrd
    rw [e2] at hrl
    have HRD := za0.mk hrd
    have HRL := za0.mk hrl
    have HGZ : za0 (w.heap.size < V7.heap.size) := ⟨zae HZ.out⟩
    have HZ := za0.mk (zab HZ.out HF.out.below)
    have b0 : wr.cell? ⟨V7.heap.size, 0, none⟩ = some u := (za4 HF.out.bc 0).trans rfl
    have b1 : wr.cell? ⟨V7.heap.size, 1, none⟩ = some v := (za4 HF.out.bc 1).trans rfl
    clear e1 e2 hrd hrl
    have HU1 : za0 (u.oneCell' = true) := ⟨by obtain ⟨A, c, e⟩ := RD.slice HRD.out; rw [e]; rfl⟩
    have HV1 : za0 (v.oneCell' = true) := ⟨by obtain ⟨A, c, e⟩ := Kd.R_slice HRL.out; rw [e]; rfl⟩
    go_wp2_with (first | (refine zat rfl _ _ rfl rfl HZ.out u v rfl rfl HU1.out HV1.out ?_; intro V9 hz1 hg1) | fail)
    have HB := za0.mk (below_then HB.out HB.out.size HF.out.below)
    have HB := za0.mk (grown_on hg1 HB.out (fun k e => by have := Option.some.inj e; omega))
    have HRD := za0.mk (HRD.out.keep fun g hg => hg1.block g (HRD.out.lt hg) fun e => by have := (HRD.out.block hg).1; have := HGZ.out; have := Option.some.inj e; omega)
    have HRL := za0.mk (HRL.out.keep fun g hg => hg1.block g (by obtain ⟨_, cur, hc⟩ := HRL.out.block hg; exact zae hc) fun e => by have := (HRL.out.block hg).1; have := HGZ.out; have := Option.some.inj e; omega)
    have HZ := za0.mk hz1
    refine bodyPost_ret (results_chg rfl _ _ _ _ _ rfl HZ.out) rfl ?_
    exact ⟨_, _, rfl, Kd.R_lower HRD.out (Nat.le_of_lt HGZ.out), Kd.R_lower HRL.out (Nat.le_of_lt HGZ.out), HB.out⟩
end
section
def ofCmp (a b : Node) : Int := dotCmp a.f0 b.f0
theorem dotCmp_lt' (a b : Dot) : decide (dotCmp a b < 0) = dotLt a b := by
 unfold dotCmp
 cases h : dotLt a b with
 | true => simp
 | false => cases dotLt b a <;> simp
def back1Inv (W0 : World) (A B : Nat) (a b : Node) (L : Array Bool) (ac : Act) (V : World) : Prop := ∃ (l0 l1 l2 l3 l4 l5 l6 l7 l8 l9 l10 l11 l12 l13 l14 l15 l16 : Bool) (g : Nat), L = #[l0, l1, l2, l3, l4, l5, l6, l7, l8, l9, l10, l11, l12, l13, l14, l15, l16] ∧ ac = { tmps := #[vNode a, vNode b, .pointer (some ⟨A, 0, none⟩), .pointer (some ⟨B, 0, none⟩), selv l16 (.int .i64 (orI (cmpI a.f0.f1 b.f0.f1) (cmpI a.f0.f0 b.f0.f0))) (.int .i64 0), sel l0 (.pointer (some ⟨A, 0, none⟩)), sel l1 (.pointer (some ⟨A, 1, none⟩)), sel l2 (.int .i64 a.f0.f1), sel l3 (.pointer (some ⟨B, 0, none⟩)), sel l4 (.pointer (some ⟨B, 1, none⟩)), sel l5 (.int .i64 b.f0.f1), sel l6 (.int .i64 (cmpI a.f0.f1 b.f0.f1)), sel l7 (.pointer (some ⟨A, 0, none⟩)), sel l8 (.pointer (some ⟨A, 0, none⟩)), sel l9 (.int .i64 a.f0.f0), sel l10 (.pointer (some ⟨B, 0, none⟩)), sel l11 (.pointer (some ⟨B, 0, none⟩)), sel l12 (.int .i64 b.f0.f0), sel l13 (.int .i64 (cmpI a.f0.f0 b.f0.f0)), sel l14 (.slice (some ⟨g, 0, none⟩) 2 2), sel l15 (.int .i64 (orI (cmpI a.f0.f1 b.f0.f1) (cmpI a.f0.f0 b.f0.f0)))], defers := [] } ∧ za0 (Two W0 A B (boxN a) (boxN b) (cmpI a.f0.f1 b.f0.f1) (cmpI a.f0.f0 b.f0.f0) l14 g V)
set_option maxHeartbeats 1000000 in
set_option maxRecDepth 100000 in
theorem back1_call (a b : Node) (w : World) : Calls Tryz.prog 42 #[vNode a, vNode b] w fun e w' => e = .returned (.int .i64 (ofCmp a b)) ∧ Gr w w' := by
 have HB : za0 (((w.alloc (boxN a)).alloc (boxN b)).heap[w.heap.size + 1]? = some (boxN b)) := ⟨by have := zaj (w.alloc (boxN a)) (boxN b); rwa [World.size_alloc] at this⟩
 go_enter Tryz.func42, Tryz.ntmps42
 go_wp2_with fail
 refine AnyOrder.wp_region (by kernel_rfl) (back1Inv ((w.alloc (boxN a)).alloc (boxN b)) w.heap.size (w.heap.size + 1) a b) ⟨false, false, false, false, false, false, false, false, false, false, false, false, false, false, false, false, false, 0, rfl, rfl, ⟨⟨Gr.drew _, za6 (zaj _ _) _, HB.out, fun h => by cases h⟩⟩⟩ ?step ?last
 case step =>
  rintro L ac V i ⟨l0, l1, l2, l3, l4, l5, l6, l7, l8, l9, l10, l11, l12, l13, l14, l15, l16, g, rfl, rfl, HF⟩ hi K hK
  have h1 : i = 0 ∨ i = 1 ∨ i = 2 ∨ i = 3 ∨ i = 4 ∨ i = 5 ∨ i = 6 ∨ i = 7 ∨ i = 8 ∨ i = 9 ∨ i = 10 ∨ i = 11 ∨ i = 12 ∨ i = 13 ∨ i = 14 ∨ i = 15 ∨ i = 16 := by
   have h1 := (AnyOrder.mem_ready hi).1
   clear hi hK
   change i < 17 at h1
   omega
  rcases h1 with rfl | rfl | rfl | rfl | rfl | rfl | rfl | rfl | rfl | rfl | rfl | rfl | rfl | rfl | rfl | rfl | rfl
  ·
   obtain rfl : l0 = false := (AnyOrder.mem_ready hi).2.1
   clear hi
   refine AnyOrder.wpOp_go rfl (by rfl) ?_
   go_wp2_with fail
   exact ⟨true, l1, l2, l3, l4, l5, l6, l7, l8, l9, l10, l11, l12, l13, l14, l15, l16, g, rfl, rfl, HF⟩
  ·
   obtain rfl : l1 = false := (AnyOrder.mem_ready hi).2.1
   obtain rfl : l0 = true := AnyOrder.dep (q := 0) hi rfl rfl rfl
   clear hi
   simp only [sel_true, selv_true] at hK ⊢
   refine AnyOrder.wpOp_go rfl (by rfl) ?_
   go_wp2_with fail
   exact ⟨true, true, l2, l3, l4, l5, l6, l7, l8, l9, l10, l11, l12, l13, l14, l15, l16, g, rfl, rfl, HF⟩
  ·
   obtain rfl : l2 = false := (AnyOrder.mem_ready hi).2.1
   obtain rfl : l1 = true := AnyOrder.dep (q := 0) hi rfl rfl rfl
   clear hi
   simp only [sel_true, selv_true] at hK ⊢
   have c1 := (za4 (HF.out.gr.blk HF.out.a) 1).trans rfl
   refine AnyOrder.wpOp_go rfl (by rfl) ?_
   go_wp2_with fail
   exact ⟨l0, true, true, l3, l4, l5, l6, l7, l8, l9, l10, l11, l12, l13, l14, l15, l16, g, rfl, rfl, HF⟩
  ·
   obtain rfl : l3 = false := (AnyOrder.mem_ready hi).2.1
   clear hi
   refine AnyOrder.wpOp_go rfl (by rfl) ?_
   go_wp2_with fail
   exact ⟨l0, l1, l2, true, l4, l5, l6, l7, l8, l9, l10, l11, l12, l13, l14, l15, l16, g, rfl, rfl, HF⟩
  ·
   obtain rfl : l4 = false := (AnyOrder.mem_ready hi).2.1
   obtain rfl : l3 = true := AnyOrder.dep (q := 0) hi rfl rfl rfl
   clear hi
   simp only [sel_true, selv_true] at hK ⊢
   refine AnyOrder.wpOp_go rfl (by rfl) ?_
   go_wp2_with fail
   exact ⟨l0, l1, l2, true, true, l5, l6, l7, l8, l9, l10, l11, l12, l13, l14, l15, l16, g, rfl, rfl, HF⟩
  ·
   obtain rfl : l5 = false := (AnyOrder.mem_ready hi).2.1
   obtain rfl : l4 = true := AnyOrder.dep (q := 0) hi rfl rfl rfl
   clear hi
   simp only [sel_true, selv_true] at hK ⊢
   have c1 := (za4 (HF.out.gr.blk HF.out.b) 1).trans rfl
   refine AnyOrder.wpOp_go rfl (by rfl) ?_
   go_wp2_with fail
   exact ⟨l0, l1, l2, l3, true, true, l6, l7, l8, l9, l10, l11, l12, l13, l14, l15, l16, g, rfl, rfl, HF⟩
  ·
   obtain rfl : l6 = false := (AnyOrder.mem_ready hi).2.1
   obtain rfl : l2 = true := AnyOrder.dep (q := 0) hi rfl rfl rfl
   obtain rfl : l5 = true := AnyOrder.dep (q := 1) hi rfl rfl rfl
   clear hi
   simp only [sel_true, selv_true] at hK ⊢
   refine AnyOrder.wpOp_go rfl (by rfl) ?_
   go_wp2_with fail
   refine (cmpI_call _ _ V).mono ?_
   rintro e V' ⟨rfl, hb⟩
   exact hK _ _ ⟨l0, l1, true, l3, l4, true, true, l7, l8, l9, l10, l11, l12, l13, l14, l15, l16, g, rfl, rfl, ⟨HF.out.more hb⟩⟩
  ·
   obtain rfl : l7 = false := (AnyOrder.mem_ready hi).2.1
   clear hi
   refine AnyOrder.wpOp_go rfl (by rfl) ?_
   go_wp2_with fail
   exact ⟨l0, l1, l2, l3, l4, l5, l6, true, l8, l9, l10, l11, l12, l13, l14, l15, l16, g, rfl, rfl, HF⟩
  ·
   obtain rfl : l8 = false := (AnyOrder.mem_ready hi).2.1
   obtain rfl : l7 = true := AnyOrder.dep (q := 0) hi rfl rfl rfl
   clear hi
   simp only [sel_true, selv_true] at hK ⊢
   refine AnyOrder.wpOp_go rfl (by rfl) ?_
   go_wp2_with fail
   exact ⟨l0, l1, l2, l3, l4, l5, l6, true, true, l9, l10, l11, l12, l13, l14, l15, l16, g, rfl, rfl, HF⟩
  ·
   obtain rfl : l9 = false := (AnyOrder.mem_ready hi).2.1
   obtain rfl : l8 = true := AnyOrder.dep (q := 0) hi rfl rfl rfl
   clear hi
   simp only [sel_true, selv_true] at hK ⊢
   have c1 := (za4 (HF.out.gr.blk HF.out.a) 0).trans rfl
   refine AnyOrder.wpOp_go rfl (by rfl) ?_
   go_wp2_with fail
   exact ⟨l0, l1, l2, l3, l4, l5, l6, l7, true, true, l10, l11, l12, l13, l14, l15, l16, g, rfl, rfl, HF⟩
  ·
   obtain rfl : l10 = false := (AnyOrder.mem_ready hi).2.1
   clear hi
   refine AnyOrder.wpOp_go rfl (by rfl) ?_
   go_wp2_with fail
   exact ⟨l0, l1, l2, l3, l4, l5, l6, l7, l8, l9, true, l11, l12, l13, l14, l15, l16, g, rfl, rfl, HF⟩
  ·
   obtain rfl : l11 = false := (AnyOrder.mem_ready hi).2.1
   obtain rfl : l10 = true := AnyOrder.dep (q := 0) hi rfl rfl rfl
   clear hi
   simp only [sel_true, selv_true] at hK ⊢
   refine AnyOrder.wpOp_go rfl (by rfl) ?_
   go_wp2_with fail
   exact ⟨l0, l1, l2, l3, l4, l5, l6, l7, l8, l9, true, true, l12, l13, l14, l15, l16, g, rfl, rfl, HF⟩
  ·
   obtain rfl : l12 = false := (AnyOrder.mem_ready hi).2.1
   obtain rfl : l11 = true := AnyOrder.dep (q := 0) hi rfl rfl rfl
   clear hi
   simp only [sel_true, selv_true] at hK ⊢
   have c1 := (za4 (HF.out.gr.blk HF.out.b) 0).trans rfl
   refine AnyOrder.wpOp_go rfl (by rfl) ?_
   go_wp2_with fail
   exact ⟨l0, l1, l2, l3, l4, l5, l6, l7, l8, l9, l10, true, true, l13, l14, l15, l16, g, rfl, rfl, HF⟩
  ·
   obtain rfl : l13 = false := (AnyOrder.mem_ready hi).2.1
   obtain rfl : l9 = true := AnyOrder.dep (q := 0) hi rfl rfl rfl
   obtain rfl : l12 = true := AnyOrder.dep (q := 1) hi rfl rfl rfl
   obtain rfl : l6 = true := AnyOrder.dep (q := 2) hi rfl rfl rfl
   clear hi
   simp only [sel_true, selv_true] at hK ⊢
   refine AnyOrder.wpOp_go rfl (by rfl) ?_
   go_wp2_with fail
   refine (cmpI_call _ _ V).mono ?_
   rintro e V' ⟨rfl, hb⟩
   exact hK _ _ ⟨l0, l1, l2, l3, l4, l5, true, l7, l8, true, l10, l11, true, true, l14, l15, l16, g, rfl, rfl, ⟨HF.out.more hb⟩⟩
  ·
   obtain rfl : l14 = false := (AnyOrder.mem_ready hi).2.1
   obtain rfl : l6 = true := AnyOrder.dep (q := 0) hi rfl rfl rfl
   obtain rfl : l13 = true := AnyOrder.dep (q := 1) hi rfl rfl rfl
   clear hi
   simp only [sel_true, selv_true] at hK ⊢
   refine AnyOrder.wpOp_go rfl (by rfl) ?_
   go_wp2_with fail
   exact ⟨l0, l1, l2, l3, l4, l5, true, l7, l8, l9, l10, l11, l12, true, true, l15, l16, V.heap.size, rfl, rfl, ⟨HF.out.laid⟩⟩
  ·
   obtain rfl : l15 = false := (AnyOrder.mem_ready hi).2.1
   obtain rfl : l14 = true := AnyOrder.dep (q := 0) hi rfl rfl rfl
   obtain rfl : l13 = true := AnyOrder.dep (q := 1) hi rfl rfl rfl
   clear hi
   simp only [sel_true, selv_true] at hK ⊢
   refine AnyOrder.wpOp_go rfl (by rfl) ?_
   go_wp2_with fail
   refine (orI_call _ _ _ V (HF.out.pair rfl)).mono ?_
   rintro e V' ⟨rfl, hb⟩
   exact hK _ _ ⟨l0, l1, l2, l3, l4, l5, l6, l7, l8, l9, l10, l11, l12, true, true, true, l16, g, rfl, rfl, ⟨HF.out.more hb⟩⟩
  ·
   obtain rfl : l16 = false := (AnyOrder.mem_ready hi).2.1
   obtain rfl : l15 = true := AnyOrder.dep (q := 0) hi rfl rfl rfl
   obtain rfl : l0 = true := AnyOrder.dep (q := 2) hi rfl rfl rfl
   obtain rfl : l1 = true := AnyOrder.dep (q := 3) hi rfl rfl rfl
   obtain rfl : l2 = true := AnyOrder.dep (q := 4) hi rfl rfl rfl
   obtain rfl : l3 = true := AnyOrder.dep (q := 5) hi rfl rfl rfl
   obtain rfl : l4 = true := AnyOrder.dep (q := 6) hi rfl rfl rfl
   obtain rfl : l5 = true := AnyOrder.dep (q := 7) hi rfl rfl rfl
   obtain rfl : l6 = true := AnyOrder.dep (q := 8) hi rfl rfl rfl
   obtain rfl : l7 = true := AnyOrder.dep (q := 9) hi rfl rfl rfl
   obtain rfl : l8 = true := AnyOrder.dep (q := 10) hi rfl rfl rfl
   obtain rfl : l9 = true := AnyOrder.dep (q := 11) hi rfl rfl rfl
   obtain rfl : l10 = true := AnyOrder.dep (q := 12) hi rfl rfl rfl
   obtain rfl : l11 = true := AnyOrder.dep (q := 13) hi rfl rfl rfl
   obtain rfl : l12 = true := AnyOrder.dep (q := 14) hi rfl rfl rfl
   obtain rfl : l13 = true := AnyOrder.dep (q := 15) hi rfl rfl rfl
   obtain rfl : l14 = true := AnyOrder.dep (q := 16) hi rfl rfl rfl
   clear hi
   simp only [sel_true, selv_true] at hK ⊢
   refine AnyOrder.wpOp_go rfl (by rfl) ?_
   go_wp2_with fail
   exact ⟨true, true, true, true, true, true, true, true, true, true, true, true, true, true, true, true, true, g, rfl, rfl, HF⟩
 case last =>
  rintro L ac V ⟨l0, l1, l2, l3, l4, l5, l6, l7, l8, l9, l10, l11, l12, l13, l14, l15, l16, g, rfl, rfl, HF⟩ hr
  have hall := AnyOrder.all_listed rfl (by kernel_rfl) hr
  clear hr
  obtain rfl : l0 = true := hall 0 (by decide)
  obtain rfl : l1 = true := hall 1 (by decide)
  obtain rfl : l2 = true := hall 2 (by decide)
  obtain rfl : l3 = true := hall 3 (by decide)
  obtain rfl : l4 = true := hall 4 (by decide)
  obtain rfl : l5 = true := hall 5 (by decide)
  obtain rfl : l6 = true := hall 6 (by decide)
  obtain rfl : l7 = true := hall 7 (by decide)
  obtain rfl : l8 = true := hall 8 (by decide)
  obtain rfl : l9 = true := hall 9 (by decide)
  obtain rfl : l10 = true := hall 10 (by decide)
  obtain rfl : l11 = true := hall 11 (by decide)
  obtain rfl : l12 = true := hall 12 (by decide)
  obtain rfl : l13 = true := hall 13 (by decide)
  obtain rfl : l14 = true := hall 14 (by decide)
  obtain rfl : l15 = true := hall 15 (by decide)
  obtain rfl : l16 = true := hall 16 (by decide)
  clear hall
  simp only [sel_true, selv_true]
  go_wp2
  go_ret
  exact ⟨by rw [orI_dot]; rfl, ((Gr.alloc w _).trans (Gr.alloc _ _)).trans HF.out.gr⟩
theorem swoOf : Go.Sort.SWO (ltOf ofCmp) := by
 have e : ltOf ofCmp = fun a b => dotLt a.f0 b.f0 := by funext x y; exact dotCmp_lt' x.f0 y.f0
 rw [e]
 exact ⟨fun a => dotLt_irrefl _, fun _ _ _ h k => dotLt_trans h k, fun a b c h k => by
  unfold dotLt at *
  simp only [decide_eq_false_iff_not] at *
  omega⟩
end
section
section
open Go.Shelf Go.RowKit Go.Lib Go.Sort
set_option maxHeartbeats 2000000 in
set_option maxRecDepth 100000 in
theorem sortSt_whole (g : Nat) (cf : Node → Node → Int) (hO : SWO (ltOf cf)) (blk off cap : Nat) (d : Array Node) (w : World)
  (eg : ∀ args w, (callFunc g args).run Tryz.prog w = .ok (.enter g args) w) (hcmp : CmpLays Tryz.prog g #[] zar 6 cf blk off d.size w) (hH : HoldsK zar 6 w blk off d) (hblk : blk < w.heap.size) (hsz : d.size < 4611686018427387904) :
  Calls Tryz.prog 41 #[.slice (some ⟨blk, off, none⟩) d.size cap, .func (.func g) #[] #[]] w fun e w' =>
   e = .returned (.tuple #[]) ∧ ∃ d' n os, PermIn 0 d.size d d' ∧ SortedIn (ltOf cf) 0 d.size d' ∧ w' = sortWorldK zar 6 w blk off n d' os := by
 have L := Tryz.sortNode
 have hlim : Lib.bitLen d.size < 4611686018427387904 := Nat.lt_of_le_of_lt (Lib.bitLen_le d.size 62 (by omega) (by omega)) (by omega)
 have hp := Go.Proofs.AnyQ.pdqsortCmpFunc_all (P := Tryz.prog) (ρ := Tryz.sortNode_ren) { L with } 6 Tryz.isAgg42 Tryz.sizeOf42 zar cf g #[] hO blk off cap d w eg hcmp ⟨fun _ => rfl, fun x v hv => one_cells [x] v (by simpa [cellsOf] using hv), hH, hblk⟩ (d.size + 1) 0 d.size (Lib.bitLen d.size) d w (by omega) rfl (Go.Proofs.SWK.start hH) (Nat.zero_le _) (Nat.le_refl _) hsz hlim (Or.inl rfl)
 have hl : Calls Tryz.prog 58 #[.int .u64 (d.size : Int)] w fun e w' => e = .returned (.int .i64 (Lib.bitLen d.size : Nat)) ∧ w' = w := by
  have h := Go.Proofs.Any.bits_Len (Go.Proofs.SlLaysF0.n15.bits (P := Tryz.prog) (ρ := Tryz.sortNode_ren) { L with }) (d.size : Int) w (by omega) (by omega)
  rwa [Int.toNat_natCast] at h
 have HP := za0.mk (show Calls Tryz.prog 57 _ _ _ from hp)
 have HL := za0.mk hl
 have wr : IntKind.u64.wrap (d.size : Int) = d.size := by simp [IntKind.wrap, IntKind.bits, IntKind.signed]; omega
 have u0 := Tryz.underlying3
 have u1 := Tryz.underlying102
 clear hH hcmp hp hl L
 go_enter Tryz.func41, Tryz.ntmps41
 go_wp2_with fail
 refine HL.out.mono ?_
 rintro e w1 ⟨rfl, rfl⟩
 go_wp2_with fail
 refine HP.out.mono ?_
 rintro e w2 ⟨rfl, n, os, rfl⟩
 go_wp2
 go_end0
 have h := pdq_sorts (ltOf cf) hO d 0 d.size (Lib.bitLen d.size) true true (Nat.zero_le _) (Nat.le_refl _) (Or.inl rfl)
 exact ⟨rfl, _, n, os, h.1, h.2, rfl⟩
set_option maxHeartbeats 2000000 in
set_option maxRecDepth 100000 in
theorem sortSt_none (p : Option Addr) (cap : Nat) (fv : Value) (w : World) :
  Calls Tryz.prog 41 #[.slice p 0 cap, fv] w fun e w' => e = .returned (.tuple #[]) ∧ w' = w := by
 have L := Tryz.sortNode
 have HP : za0 (∀ lim W, Calls Tryz.prog 57 #[.slice p 0 cap, .int .i64 0, .int .i64 0, .int .i64 lim, fv] W fun e w' => e = .returned (.tuple #[]) ∧ w' = W) := ⟨fun lim W => Go.Proofs.AnyF.pdqsortCmpFunc_none (P := Tryz.prog) (ρ := Tryz.sortNode_ren) { L with } p cap lim fv W⟩
 have hl : ∀ W, Calls Tryz.prog 58 #[.int .u64 0] W fun e w' => e = .returned (.int .i64 (Lib.bitLen 0 : Nat)) ∧ w' = W := fun W => by
  have h := Go.Proofs.Any.bits_Len (Go.Proofs.SlLaysF0.n15.bits (P := Tryz.prog) (ρ := Tryz.sortNode_ren) { L with }) 0 W (by omega) (by omega)
  exact h
 have HL := za0.mk hl
 have u0 := Tryz.underlying3
 have u1 := Tryz.underlying102
 clear hl L
 go_enter Tryz.func41, Tryz.ntmps41
 go_wp2_with fail
 refine (HL.out _).mono ?_
 rintro e w1 ⟨rfl, rfl⟩
 go_wp2_with fail
 refine (HP.out _ _).mono ?_
 rintro e w2 ⟨rfl, rfl⟩
 go_wp2
 go_end0
 exact ⟨rfl, rfl⟩
end
set_option maxRecDepth 100000 in
theorem sortSt_call (base : Nat) (u : Value) (xs : List Node) (w : World) (h : RN w base u xs) (hl : xs.length ≤ 1000001) :
  Calls Tryz.prog 41 #[u, .func (.func 42) #[] #[]] w fun e w' => e = .returned (.tuple #[]) ∧ ∃ ys, RN w' base u ys ∧ ys.Perm xs ∧ ys.Pairwise (fun a b => dotLt b.f0 a.f0 = false) ∧ Tch (fun i => u.ownBlock = some i) w w' := by
 obtain ⟨hcl, ho⟩ := cells_of_R h
 rcases ho with ⟨h0, h1⟩ | ⟨g, cap, cur, he, hbg, hcur, hle, hmx, hsz, htk⟩
 ·
  subst h0
  have hx : xs = [] := List.length_eq_zero_iff.1 h1
  subst hx
  refine (sortSt_none none 0 (.func (.func 42) #[] #[]) w).mono ?_
  rintro e w' ⟨rfl, rfl⟩
  exact ⟨rfl, [], h, List.Perm.refl _, List.Pairwise.nil, ⟨rfl, rfl, rfl, Nat.le_refl _, fun _ _ _ => rfl⟩⟩
 subst he
 obtain ⟨n, hn⟩ : ∃ n, xs.length = n := ⟨_, rfl⟩
 rw [hn] at hle htk h hcl ⊢
 have hds : xs.toArray.size = n := by rw [List.size_toArray]; exact hn
 have hH := row_holds zar 6 (fun _ => rfl) (by decide) (d := xs.toArray) hcur hds htk
 have hcon := sortSt_whole 42 ofCmp swoOf g 0 cap xs.toArray w (enters_of Tryz.func42 (by kernel_rfl) rfl) (fun m os dk hs x y => back1_call x y _) hH (zae hcur) (by rw [hds]; omega)
 rw [hds] at hcon
 refine hcon.mono ?_
 rintro e w' ⟨rfl, d', m, os, hp, hs, rfl⟩
 have hd' : d'.size = n := hp.1.trans hds
 obtain ⟨⟨cur', h1, h2, h3⟩, ht⟩ := row_sorted zar 6 (fun _ => rfl) (by decide) (d' := d') hcur hsz hd' hle m os
 have hperm : d'.toList.Perm xs := by
  have := hp.2.2
  rw [hd'.symm, Array.extract_size, hd', ← hds, Array.extract_size] at this
  exact this
 have hlen : d'.toList.length = n := by rw [Array.length_toList]; exact hd'
 refine ⟨rfl, d'.toList, R_of_cells ⟨by rw [cellsOf_length], .inr ⟨g, cap, cur', by rw [hlen], hbg, h1, by rw [hlen]; exact hle, hmx, h2, by rw [hlen, h3]; rfl⟩⟩ (fun _ _ => trivial), hperm, ?_, ht⟩
 refine List.pairwise_iff_getElem.2 fun i j hi hj hij => ?_
 have := hs i j (Nat.zero_le _) hij (by rw [Array.length_toList, hd'] at hj; omega)
 rw [Array.length_toList] at hi hj
 rw [getElem!_pos d' j hj, getElem!_pos d' i hi] at this
 rw [← dotCmp_lt']
 exact this
/-- One list alone is increasing, of those that have the same nodes. -/
theorem inc_perm : ∀ {a b : List Node}, a.Perm b → a.Pairwise (fun x y => dotLt y.f0 x.f0 = false) → Inc b → a = b
 | [], b, hp, _, _ => by rw [List.nil_perm.1 hp]
 | x :: a, [], hp, _, _ => absurd (List.perm_nil.1 hp) (by simp)
 | x :: a, y :: b, hp, ha, hb => by
  obtain ⟨ha1, ha2⟩ := List.pairwise_cons.1 ha
  obtain ⟨hb1, hb2⟩ := List.pairwise_cons.1 hb
  have hxy : x = y := by
   refine Classical.byContradiction fun hne => ?_
   have hx : x ∈ b := (List.mem_cons.1 (hp.mem_iff.1 List.mem_cons_self)).resolve_left hne
   have hy : y ∈ a := (List.mem_cons.1 (hp.mem_iff.2 List.mem_cons_self)).resolve_left (fun e => hne e.symm)
   have h1 := hb1 x hx
   rw [ha1 y hy] at h1
   cases h1
  subst hxy
  rw [inc_perm (List.Perm.cons_inv hp) ha2 hb2]
def putD (x : Node) : List Node → List Node
 | [] => [x]
 | y :: r => if dotLt y.f0 x.f0 = true then y :: putD x r else x :: y :: r
def sortD (l : List Node) : List Node := l.foldl (fun o x => putD x o) []
theorem putD_perm (x : Node) : ∀ l : List Node, (putD x l).Perm (x :: l)
 | [] => List.Perm.refl _
 | y :: r => by
  rw [putD]
  split
  ·
   exact ((putD_perm x r).cons y).trans (List.Perm.swap x y r)
  ·
   exact List.Perm.refl _
theorem sortD_perm_from : ∀ l o : List Node, (l.foldl (fun o x => putD x o) o).Perm (l ++ o)
 | [], o => List.Perm.refl _
 | x :: l, o => by
  rw [List.foldl_cons]
  exact ((sortD_perm_from l (putD x o)).trans ((putD_perm x o).append_left l)).trans (by rw [List.cons_append]; exact List.perm_middle)
theorem sortD_perm (l : List Node) : (sortD l).Perm l := by have h := sortD_perm_from l []; rwa [List.append_nil] at h
theorem putD_inc {x : Node} : ∀ {l : List Node}, Inc l → x.f0 ∉ l.map (·.f0) → Inc (putD x l)
 | [], _, _ => List.pairwise_singleton _ _
 | y :: r, h, hx => by
  obtain ⟨h1, h2⟩ := List.pairwise_cons.1 h
  have hne : x.f0 ≠ y.f0 := fun e => hx (by rw [e]; simp)
  rw [putD]
  by_cases hl : dotLt y.f0 x.f0 = true
  ·
   rw [if_pos hl]
   refine List.pairwise_cons.2 ⟨fun z hz => ?_, putD_inc h2 fun hm => hx (by simp only [List.map_cons]; exact List.mem_cons_of_mem _ hm)⟩
   rcases List.mem_cons.1 ((putD_perm x r).mem_iff.1 hz) with rfl | hz
   ·
    exact hl
   ·
    exact h1 z hz
  ·
   rw [if_neg hl]
   have hxy : dotLt x.f0 y.f0 = true := by
    cases h3 : dotLt x.f0 y.f0 with
    | true => rfl
    | false => exact absurd (dotLt_total h3 (by simpa using hl)) hne
   refine List.pairwise_cons.2 ⟨fun z hz => ?_, h⟩
   rcases List.mem_cons.1 hz with rfl | hz
   ·
    exact hxy
   ·
    exact dotLt_trans hxy (h1 z hz)
theorem sortD_inc_from : ∀ (l o : List Node), Inc o → ((l ++ o).map (·.f0)).Nodup → Inc (l.foldl (fun o x => putD x o) o)
 | [], o, h, _ => h
 | x :: l, o, h, hn => by
  rw [List.foldl_cons]
  have hp : (l ++ putD x o).Perm (x :: l ++ o) := ((putD_perm x o).append_left l).trans (by rw [List.cons_append]; exact List.perm_middle)
  refine sortD_inc_from l _ (putD_inc h ?_) ((hp.map _).nodup_iff.2 hn)
  rw [List.cons_append, List.map_cons, List.nodup_cons] at hn
  exact fun hm => hn.1 (by rw [List.map_append]; exact List.mem_append_right _ hm)
theorem sortD_inc {l : List Node} (h : (l.map (·.f0)).Nodup) : Inc (sortD l) := sortD_inc_from l [] List.Pairwise.nil (by rwa [List.append_nil])
end
section
def vT : Nat → Value := fun _ => .bool true
def seenM (l : List Dot) : List (Dot × Nat) := l.foldl (fun m d => MapLaw.mset m d 0) []
theorem seenM_succ {l : List Dot} {k : Nat} {x : Dot} (h : l[k]? = some x) : seenM (l.take (k + 1)) = MapLaw.mset (seenM (l.take k)) x 0 := by
 obtain ⟨hk, e⟩ := List.getElem?_eq_some_iff.1 h
 unfold seenM
 rw [List.take_succ_eq_append_getElem hk, List.foldl_append, e]; rfl
theorem seen_from (l : List Dot) (d : Dot) : ∀ m : List (Dot × Nat), (MapLaw.mget (l.foldl (fun m d => MapLaw.mset m d 0) m) d).isSome = (decide (d ∈ l) || (MapLaw.mget m d).isSome) := by
 induction l with
 | nil => intro m; simp
 | cons x l ih =>
  intro m
  rw [List.foldl_cons, ih, MapLaw.mget_mset]
  by_cases h : d = x
  ·
   subst h; simp
  ·
   rw [if_neg h]
   simp [h]
theorem seen_has (l : List Dot) (d : Dot) : (MapLaw.mget (seenM l) d).isSome = decide (d ∈ l) := by
 unfold seenM
 rw [seen_from]; simp [MapLaw.mget_nil]
theorem seen_val (l : List Dot) (d : Dot) {b : Bool} (h : decide (d ∈ l) = b) : ((MapLaw.mget (seenM l) d).map vT).getD (.bool false) = .bool b := by
 rw [← h, ← seen_has]
 cases MapLaw.mget (seenM l) d <;> rfl
theorem nodup_succ {l : List Dot} {k : Nat} {x : Dot} (h : l[k]? = some x) : (l.take (k + 1)).Nodup ↔ (l.take k).Nodup ∧ x ∉ l.take k := by
 obtain ⟨hk, e⟩ := List.getElem?_eq_some_iff.1 h
 rw [List.take_succ_eq_append_getElem hk, e, List.nodup_append]
 constructor
 ·
  rintro ⟨h1, _, h3⟩
  exact ⟨h1, fun hx => h3 x hx x (by simp) rfl⟩
 ·
  rintro ⟨h1, h2⟩
  exact ⟨h1, by simp, fun a ha b hb e => by simp at hb; exact h2 (by rw [← hb, ← e]; exact ha)⟩
theorem nodup_take {l : List Dot} (k : Nat) (h : l.Nodup) : (l.take k).Nodup := h.sublist (List.take_sublist k l)
def validC (m : List Dot) (g : List LostE) : Bool := decide m.Nodup && (decide (g.map (·.f0)).Nodup && g.all fun x => runeOk x.f1)
theorem lost_at {w wr : World} {A : Option Addr} {n : Nat} {xs : List LostE} (h : Kd.C k68 w A n xs) (hb : Below w.heap.size w wr) (k : Nat) (x : LostE) (hk : xs[k]? = some x) :
  ∃ ad, A = some ad ∧ wr.cell? (ad.add (k * 3)) = some (.int .i64 x.f0.f0) ∧ wr.cell? ⟨(ad.add (k * 3)).block, (ad.add (k * 3)).off + 1, none⟩ = some (.int .i64 x.f0.f1) ∧ wr.cell? ⟨(ad.add (k * 3)).block, (ad.add (k * 3)).off + 2, none⟩ = some (.int .i32 x.f1) := by
 have hl := Kd.C_len h
 have hlt := (List.getElem?_eq_some_iff.1 hk).1
 obtain ⟨ad, e, h0, h1, h2⟩ := at_T68 h (k : Int) (by omega) (by omega)
 have hd : rd_T68 xs (k : Int) = x := by simp [rd_T68, hk]
 rw [hd] at h0 h1 h2
 simp only [Int.toNat_natCast] at h0 h1 h2
 exact ⟨ad, e, zal hb h0, zal hb h1, zal hb h2⟩
theorem dot_row {w wr : World} {A : Option Addr} {n : Nat} {xs : List Dot} (h : Kd.C k39 w A n xs) (hb : Below w.heap.size w wr) (k : Nat) (x : Dot) (hk : xs[k]? = some x) :
  ∃ ad, A = some ad ∧ wr.cell? (ad.add (k * 2)) = some (.int .i64 x.f0) ∧ wr.cell? ⟨(ad.add (k * 2)).block, (ad.add (k * 2)).off + 1, none⟩ = some (.int .i64 x.f1) := by
 have hl := Kd.C_len h
 have hlt := (List.getElem?_eq_some_iff.1 hk).1
 obtain ⟨ad, e, h0, h1⟩ := at_T39 h (k : Int) (by omega) (by omega)
 have hd : zas xs (k : Int) = x := by simp [zas, hk]
 rw [hd] at h0 h1
 simp only [Int.toNat_natCast] at h0 h1
 exact ⟨ad, e, zal hb h0, zal hb h1⟩
abbrev lostC (x : LostE) : Obj := .cells #[.int .i64 x.f0.f0, .int .i64 x.f0.f1, .int .i32 x.f1] 68 (0, 0)
set_option maxHeartbeats 4000000 in
set_option maxRecDepth 100000 in
theorem valid_call (A0 : Option Addr) (n0 c0 : Nat) (l0 : List Dot) (A1 : Option Addr) (n1 c1 : Nat) (l1 : List LostE) (w : World) (hr0 : Kd.C k39 w A0 n0 l0) (hr1 : Kd.C k68 w A1 n1 l1) (hl : n0 ≤ 1000000 ∧ n1 ≤ 1000000) :
  Calls Tryz.prog 34 #[.agg #[.slice A0 n0 c0, .slice A1 n1 c1]] w fun e w' => e = .returned (.bool (validC l0 l1)) ∧ Below w.heap.size w w' := by
 have HR0 := za0.mk hr0
 have HR1 := za0.mk hr1
 have Hn0 := za0.mk (Kd.C_len hr0)
 have Hn1 := za0.mk (Kd.C_len hr1)
 have HL := za0.mk hl
 have hu := Tryz.underlying68
 have hu2 := Tryz.underlying39
 have hu3 := Tryz.underlying28
 have hmm := @run_makeMap Tryz.prog
 obtain ⟨W1, Hw1⟩ : ∃ W, za0 (w.alloc (chgC (.slice A0 n0 c0) (.slice A1 n1 c1)) = W) := ⟨_, ⟨rfl⟩⟩
 have HC := za0.mk (zaj w (chgC (.slice A0 n0 c0) (.slice A1 n1 c1)))
 have HB := za0.mk (za2 (Below.refl _ w) (chgC (.slice A0 n0 c0) (.slice A1 n1 c1)))
 have HS := za0.mk (World.size_alloc w (chgC (.slice A0 n0 c0) (.slice A1 n1 c1)))
 rw [Hw1.out] at HC HB HS
 have HMa := za0.mk ((MapLaw.MapIs.new (enc := vDot) (val := vT) W1).below (za2 (Below.refl _ _) (.map #[] 0)))
 have HMb := za0.mk (MapLaw.MapIs.new (enc := vDot) (val := vT) (W1.alloc (.map #[] 0)))
 have HB1 := za0.mk (za8 (za2 (Below.refl _ W1) (.map #[] 0)) (za2 (Below.refl _ (W1.alloc (.map #[] 0))) (.map #[] 0)))
 have hb0 : ((W1.alloc (.map #[] 0)).alloc (.map #[] 0)).cell? ⟨w.heap.size, 0, none⟩ = some (.slice A0 n0 c0) := (za4 (zab HC.out HB1.out) 0).trans rfl
 rw [World.size_alloc] at HMb
 rw [HS.out] at HMa HMb
 have HB0 := za0.mk (za8 HB.out HB1.out)
 have HC0 := za0.mk (zab HC.out HB1.out)
 have hWe : (W1.alloc (.map #[] 0)).alloc (.map #[] 0) = ((w.alloc (chgC (.slice A0 n0 c0) (.slice A1 n1 c1))).alloc (.map #[] 0)).alloc (.map #[] 0) := by rw [Hw1.out]
 rw [hWe] at HB0 HC0 HMa HMb hb0
 have HNDa : za0 ((l0.take 0).Nodup) := ⟨by simp⟩
 clear hr0 hr1 hl hWe HB1 HC HB HS Hw1
 go_enter Tryz.func34, Tryz.ntmps34
 go_wp2_with fail
 clear hb0
 go_loopw [14] (fun i wr => ∃ k : Nat, i = .int .i64 k ∧ k ≤ n0 ∧ za0 (MapLaw.MapIs vDot vT wr (w.heap.size + 1) (seenM (l0.take k))) ∧ za0 (MapLaw.MapIs vDot vT wr (w.heap.size + 1 + 1) []) ∧ za0 ((l0.take k).Nodup) ∧ za0 (wr.heap[w.heap.size]? = some (chgC (.slice A0 n0 c0) (.slice A1 n1 c1))) ∧ za0 (Below w.heap.size w wr)) (fun i _ => n0 - (intOf i).toNat)
 case atStart => exact ⟨0, rfl, Nat.zero_le _, HMa, HMb, HNDa, HC0, HB0⟩
 case round =>
  obtain ⟨k, rfl, hk, HM1, HM2, HND, HC, HB⟩ := hrel
  by_cases hlt : k < n0
  ·
   obtain ⟨x, Hx⟩ : ∃ x, za0 (l0[k]? = some x) := ⟨_, ⟨List.getElem?_eq_getElem (by rw [Hn0.out]; exact hlt)⟩⟩
   have HST := za0.mk (seenM_succ Hx.out)
   obtain ⟨ad, e, y0, y1⟩ := dot_row HR0.out HB.out k x Hx.out
   subst e
   obtain ⟨b, Hb⟩ : ∃ b, za0 (decide (x ∈ l0.take k) = b) := ⟨_, ⟨rfl⟩⟩
   have HMX := za0.mk (HM1.out.below (za2 (Below.refl _ wr) (dotC x)))
   have hkn : k < n0 ∧ n0 ≤ 1000000 := ⟨hlt, HL.out.1⟩
   cases b
   ·
    have HNX : za0 ((l0.take (k + 1)).Nodup) := ⟨(nodup_succ Hx.out).2 ⟨HND.out, of_decide_eq_false Hb.out⟩⟩
    go_wp2_with (first | (at_lookup; refine MapLaw.wpList_lookup rfl _ _ _ false rfl dotKey Tryz.underlying94 (z := .bool false) Tryz.zeroValue4 x rfl rfl HMX.out (seen_val _ _ Hb.out) (seen_has _ _) ?_) | (at_mapUpdate; (refine MapLaw.wpList_update rfl _ _ _ _ rfl dotKey Tryz.underlying94 x 0 rfl rfl rfl HMX.out ?_); intro W5 hM5 hg5) | fail)
    have hba := za2 (Below.refl _ wr) (dotC x)
    have HM1 : za0 (MapLaw.MapIs vDot vT W5 (w.heap.size + 1) (seenM (l0.take (k + 1)))) := ⟨by rw [HST.out]; exact hM5⟩
    have HM2 := za0.mk ((HM2.out.below hba).same (hg5.block _ (HM2.out.below hba).lt (fun e => by have := Option.some.inj e; omega)))
    have HC := za0.mk ((hg5.block _ (zae (zab HC.out hba)) (fun e => by have := Option.some.inj e; omega)).trans (zab HC.out hba))
    have HB := za0.mk (grown_on hg5 (za8 HB.out hba) (fun q e => by have := Option.some.inj e; omega))
    clear hba hM5 hg5 y0 y1
    go_roundw
    case rel => exact ⟨k + 1, by go_num, by omega, HM1, HM2, HNX, HC, HB⟩
    case measure => simp [intOf]; omega
   ·
    go_wp2_with (first | (at_lookup; refine MapLaw.wpList_lookup rfl _ _ _ false rfl dotKey Tryz.underlying94 (z := .bool false) Tryz.zeroValue4 x rfl rfl HMX.out (seen_val _ _ Hb.out) (seen_has _ _) ?_) | fail)
    go_ret
    refine ⟨?_, za8 HB.out (za2 (Below.refl _ wr) (dotC x))⟩
    have hv : validC l0 l1 = false := by
     unfold validC
     rw [decide_eq_false fun h => ((nodup_succ Hx.out).1 (nodup_take (k + 1) h)).2 (of_decide_eq_true Hb.out)]; rfl
    rw [hv]; rfl
  obtain rfl : k = n0 := by omega
  have HD0 : za0 (l0.Nodup) := ⟨by have := HND.out; rwa [List.take_of_length_le (Nat.le_of_eq Hn0.out)] at this⟩
  have hb1 : wr.cell? ⟨w.heap.size, 1, none⟩ = some (.slice A1 n1 c1) := (za4 HC.out 1).trans rfl
  have HM0 : za0 (MapLaw.MapIs vDot vT wr (w.heap.size + 1 + 1) (seenM ((l1.take 0).map (·.f0)))) := HM2
  have HND : za0 (((l1.take 0).map (·.f0)).Nodup ∧ (l1.take 0).all (fun x => runeOk x.f1) = true) := ⟨by simp⟩
  clear HM1 HM2
  go_wp2_with fail
  clear hb1
  go_loopw [27] (fun i V => ∃ k : Nat, i = .int .i64 k ∧ k ≤ n1 ∧ za0 (MapLaw.MapIs vDot vT V (w.heap.size + 1 + 1) (seenM ((l1.take k).map (·.f0)))) ∧ za0 (((l1.take k).map (·.f0)).Nodup ∧ (l1.take k).all (fun x => runeOk x.f1) = true) ∧ za0 (Below w.heap.size w V)) (fun i _ => n1 - (intOf i).toNat)
  case atStart => exact ⟨0, rfl, Nat.zero_le _, HM0, HND, HB⟩
  case round =>
   obtain ⟨k, rfl, hk, HM2, HND, HB⟩ := hrel
   by_cases hlt : k < n1
   ·
    obtain ⟨x, Hx⟩ : ∃ x, za0 (l1[k]? = some x) := ⟨_, ⟨List.getElem?_eq_getElem (by rw [Hn1.out]; exact hlt)⟩⟩
    have hxm : (l1.map (·.f0))[k]? = some x.f0 := by rw [List.getElem?_map, Hx.out]; rfl
    have HST := za0.mk (seenM_succ hxm)
    have HNS := za0.mk (nodup_succ hxm)
    rw [← List.map_take, ← List.map_take] at HST HNS
    have HAL : za0 ((l1.take (k + 1)).all (fun x => runeOk x.f1) = ((l1.take k).all (fun x => runeOk x.f1) && runeOk x.f1)) := ⟨by
     obtain ⟨hk', e⟩ := List.getElem?_eq_some_iff.1 Hx.out
     rw [List.take_succ_eq_append_getElem hk', e, List.all_append]; simp⟩
    clear hxm
    obtain ⟨ad, e, y0, y1, y2⟩ := lost_at HR1.out HB.out k x Hx.out
    subst e
    obtain ⟨b, Hb⟩ : ∃ b, za0 (decide (x.f0 ∈ (l1.take k).map (·.f0)) = b) := ⟨_, ⟨rfl⟩⟩
    have HMX := za0.mk (HM2.out.below (za2 (Below.refl _ wr) (lostC x)))
    have HX := za0.mk (zaj wr (lostC x))
    have HB := za0.mk (za8 HB.out (za2 (Below.refl _ wr) (lostC x)))
    have hkn : k < n1 ∧ n1 ≤ 1000000 := ⟨hlt, HL.out.2⟩
    cases b
    ·
     go_wp2_with (first | (at_lookup; refine MapLaw.wpList_lookup rfl _ _ _ false rfl dotKey Tryz.underlying94 (z := .bool false) Tryz.zeroValue4 x.f0 rfl rfl HMX.out (seen_val _ _ Hb.out) (seen_has _ _) ?_) | fail)
     refine (runes_Valid.calls 2 x.f1 (runeOk x.f1) _ (runesValid_is 1 x.f1)).mono ?_
     rintro e W3 ⟨rfl, hd⟩
     have HMX := za0.mk (HMX.out.below (Gr.drawn hd).below)
     have HX := za0.mk (zab HX.out (Gr.drawn hd).below)
     have HB := za0.mk (za8 HB.out (Gr.drawn hd).below)
     clear hd y0 y1 y2
     obtain ⟨ro, Hro⟩ : ∃ b, za0 (runeOk x.f1 = b) := ⟨_, ⟨rfl⟩⟩
     rw [Hro.out]
     have y0 : W3.cell? ⟨wr.heap.size, 0, none⟩ = some (.int .i64 x.f0.f0) := (za4 HX.out 0).trans rfl
     have y1 : W3.cell? ⟨wr.heap.size, 1, none⟩ = some (.int .i64 x.f0.f1) := (za4 HX.out 1).trans rfl
     cases ro
     ·
      clear y0 y1
      go_wp2
      go_ret
      refine ⟨?_, HB.out⟩
      have hv : validC l0 l1 = false := by
       unfold validC
       have h1 : (l1.all fun x => runeOk x.f1) = false := List.all_eq_false.2 ⟨x, List.mem_of_getElem? Hx.out, by rw [Hro.out]; decide⟩
       rw [h1]; simp
      rw [hv]; rfl
     ·
      have HNX : za0 (((l1.take (k + 1)).map (·.f0)).Nodup ∧ (l1.take (k + 1)).all (fun x => runeOk x.f1) = true) := ⟨HNS.out.2 ⟨HND.out.1, of_decide_eq_false Hb.out⟩, by rw [HAL.out, HND.out.2, Hro.out]; rfl⟩
      go_wp2_with (first | (at_mapUpdate; (refine MapLaw.wpList_update rfl _ _ _ _ rfl dotKey Tryz.underlying94 x.f0 0 rfl rfl rfl HMX.out ?_); intro W5 hM5 hg5) | fail)
      have HM2 : za0 (MapLaw.MapIs vDot vT W5 (w.heap.size + 1 + 1) (seenM ((l1.take (k + 1)).map (·.f0)))) := ⟨by rw [HST.out]; exact hM5⟩
      have HB := za0.mk (grown_on hg5 HB.out (fun q e => by have := Option.some.inj e; omega))
      clear hM5 hg5 y0 y1
      go_roundw
      case rel => exact ⟨k + 1, by go_num, by omega, HM2, HNX, HB⟩
      case measure => simp [intOf]; omega
    ·
     go_wp2_with (first | (at_lookup; refine MapLaw.wpList_lookup rfl _ _ _ false rfl dotKey Tryz.underlying94 (z := .bool false) Tryz.zeroValue4 x.f0 rfl rfl HMX.out (seen_val _ _ Hb.out) (seen_has _ _) ?_) | fail)
     go_ret
     refine ⟨?_, HB.out⟩
     have hv : validC l0 l1 = false := by
      unfold validC
      have h1 : ¬ (l1.map (·.f0)).Nodup := fun h => by
       have h2 := nodup_take (k + 1) h
       rw [← List.map_take] at h2
       exact (HNS.out.1 h2).2 (of_decide_eq_true Hb.out)
      rw [decide_eq_false h1]; simp
     rw [hv]; rfl
   obtain rfl : k = n1 := by omega
   go_wp2
   go_ret
   refine ⟨?_, HB.out⟩
   have h1 := HND.out
   rw [List.take_of_length_le (Nat.le_of_eq Hn1.out)] at h1
   have hv : validC l0 l1 = true := by
    unfold validC
    rw [decide_eq_true HD0.out, decide_eq_true h1.1, h1.2]; rfl
   rw [hv]; rfl
end
section
def timeOf (l : List Node) : Int := l.foldl (fun m x => if x.f2 > m then x.f2 else m) 0
theorem timeFrom (l : List Node) : ∀ m : Int, m ≤ l.foldl (fun m x => if x.f2 > m then x.f2 else m) m ∧ ∀ x ∈ l, x.f2 ≤ l.foldl (fun m x => if x.f2 > m then x.f2 else m) m := by
 induction l with
 | nil => intro m; exact ⟨Int.le_refl _, fun x hx => by cases hx⟩
 | cons y l ih =>
  intro m
  rw [List.foldl_cons]
  obtain ⟨h1, h2⟩ := ih (if y.f2 > m then y.f2 else m)
  have hc : m ≤ (if y.f2 > m then y.f2 else m) ∧ y.f2 ≤ (if y.f2 > m then y.f2 else m) := by split <;> omega
  refine ⟨Int.le_trans hc.1 h1, fun x hx => ?_⟩
  rcases List.mem_cons.1 hx with rfl | hx
  ·
   exact Int.le_trans hc.2 h1
  ·
   exact h2 x hx
theorem timeFrom_le {M : Int} (l : List Node) : ∀ m : Int, m ≤ M → (∀ x ∈ l, x.f2 ≤ M) → l.foldl (fun m x => if x.f2 > m then x.f2 else m) m ≤ M := by
 induction l with
 | nil => intro m hm _; exact hm
 | cons y l ih =>
  intro m hm h
  rw [List.foldl_cons]
  refine ih _ ?_ fun x hx => h x (List.mem_cons_of_mem _ hx)
  split
  ·
   exact h y (List.mem_cons_self ..)
  ·
   exact hm
theorem time_ge (l : List Node) : 0 ≤ timeOf l ∧ ∀ x ∈ l, x.f2 ≤ timeOf l := timeFrom l 0
theorem time_le {l : List Node} (hs : Store l) : timeOf l ≤ 4611686018427387904 := timeFrom_le l 0 (by omega) fun x hx => by
 have := hs.ok x hx
 unfold nodeOk at this
 rw [decide_eq_true_eq] at this
 exact this.2.2.2.2.1
theorem timeOf_succ {l : List Node} {k : Nat} {x : Node} (h : l[k]? = some x) : timeOf (l.take (k + 1)) = if x.f2 > timeOf (l.take k) then x.f2 else timeOf (l.take k) := by
 obtain ⟨hk, e⟩ := List.getElem?_eq_some_iff.1 h
 unfold timeOf
 rw [List.take_succ_eq_append_getElem hk, List.foldl_append, e]; rfl
def madeF (s : List Node) (d : Dot) : Option Node := (MapLaw.mget (nodesM s) d).bind fun x => if x.f3 = 0 then none else some (deadN x)
def madeC (s : List Node) (m : List Dot) : List Node := m.filterMap (madeF s)
theorem madeC_succ {s : List Node} {m : List Dot} {k : Nat} {d : Dot} (h : m[k]? = some d) : madeC s (m.take (k + 1)) = madeC s (m.take k) ++ (madeF s d).toList := by
 obtain ⟨hk, e⟩ := List.getElem?_eq_some_iff.1 h
 unfold madeC
 rw [List.take_succ_eq_append_getElem hk, List.filterMap_append, e]
 cases hf : madeF s d <;> simp [hf]
theorem madeC_len (s : List Node) (m : List Dot) : (madeC s m).length ≤ m.length := List.length_filterMap_le _ _
def goneN (s : List Node) : List LostE → Dot → Int → List Node → List Node × Int
 | [], _, _, o => (o, 0)
 | x :: g, d, t, o => match MapLaw.mget (nodesM s) x.f0 with
  | none => goneN s g d t o
  | some y => if y.f3 ≠ 0 then goneN s g d t o
   else if d.f1 > 4294967295 ∨ t + 1 > 4611686018427387904 then ([], 14)
   else if (MapLaw.mget (nodesM s) d).isSome = true then ([], 15)
   else goneN s g ⟨d.f0, d.f1 + 1⟩ (t + 1) (o ++ [⟨d, x.f0, t + 1, x.f1⟩])
def backG (s : List Node) (d : Dot) (m : List Dot) (g : List LostE) : List Node × Int := goneN s g d (timeOf s) (madeC s m)
def backOk (s : List Node) (d : Dot) (m : List Dot) (g : List LostE) : Bool := storeOk s && (wellB s && (decide (1 ≤ d.f0 ∧ d.f0 ≤ 64 ∧ 1 ≤ d.f1 ∧ d.f1 ≤ 4294967295) && validC m g))
def backE (r : List Node × Int) (u : List Dot × List LostE × Int) : List Node × List Dot × List LostE × Int :=
 if r.2 ≠ 0 then ([], [], [], r.2) else if u.2.2 ≠ 0 then ([], [], [], u.2.2) else (sortD r.1, u.1, u.2.1, 0)
def backR (s : List Node) (d : Dot) (m : List Dot) (g : List LostE) : List Node × List Dot × List LostE × Int :=
 if backOk s d m g = true then backE (backG s d m g) (undoOfR s (sortD (backG s d m g).1)) else ([], [], [], 2)
theorem nodesM_key : ∀ (l : List Node) (q : List (Dot × Node)), (∀ d x, MapLaw.mget q d = some x → x.f0 = d) → ∀ d x, MapLaw.mget (l.foldl (fun m x => MapLaw.mset m x.f0 x) q) d = some x → x.f0 = d
 | [], _, h => h
 | y :: l, q, h => by
  rw [List.foldl_cons]
  refine nodesM_key l _ fun d x hx => ?_
  rw [MapLaw.mget_mset] at hx
  split at hx
  ·
   next e => cases hx; exact e.symm
  ·
   exact h d x hx
theorem nodesM_dot {l : List Node} {d : Dot} {x : Node} (h : MapLaw.mget (nodesM l) d = some x) : x.f0 = d := nodesM_key l [] (fun d x h => by rw [MapLaw.mget_nil] at h; cases h) d x h
theorem madeF_dot {s : List Node} {d : Dot} {x : Node} (h : madeF s d = some x) : x.f0 = d ∧ (MapLaw.mget (nodesM s) d).isSome = true := by
 unfold madeF at h
 obtain ⟨y, hy, h⟩ := Option.bind_eq_some_iff.1 h
 split at h
 ·
  cases h
 ·
  cases h; exact ⟨(show (deadN y).f0 = y.f0 from rfl).trans (nodesM_dot hy), by rw [hy]; rfl⟩
theorem madeC_sub (s : List Node) : ∀ m : List Dot, ((madeC s m).map (·.f0)).Sublist m
 | [] => List.Sublist.slnil
 | d :: m => by
  unfold madeC
  cases h : madeF s d with
  | none => rw [List.filterMap_cons_none h]; exact (madeC_sub s m).cons d
  | some x => rw [List.filterMap_cons_some h, List.map_cons, (madeF_dot h).1]; exact (madeC_sub s m).cons_cons d
theorem madeC_in {s : List Node} {m : List Dot} {x : Node} (h : x ∈ madeC s m) : (MapLaw.mget (nodesM s) x.f0).isSome = true := by
 obtain ⟨d, _, hd⟩ := List.mem_filterMap.1 h
 obtain ⟨h1, h2⟩ := madeF_dot hd
 rw [h1]; exact h2
theorem goneN_nodup (s : List Node) : ∀ (g : List LostE) (d : Dot) (t : Int) (o : List Node), (o.map (·.f0)).Nodup → (∀ x ∈ o, (MapLaw.mget (nodesM s) x.f0).isSome = true ∨ x.f0.f1 < d.f1) → ((goneN s g d t o).1.map (·.f0)).Nodup
 | [], _, _, _, h, _ => h
 | x :: g, d, t, o, h, h2 => by
  rw [goneN]
  split
  ·
   exact goneN_nodup s g d t o h h2
  ·
   split
   ·
    exact goneN_nodup s g d t o h h2
   ·
    split
    ·
     exact List.nodup_nil
    ·
     split
     ·
      exact List.nodup_nil
     ·
      next hno =>
      refine goneN_nodup s g _ _ _ ?_ fun y hy => ?_
      ·
       rw [List.map_append, List.nodup_append]
       refine ⟨h, by simp, fun a ha b hb e => ?_⟩
       simp at hb
       subst hb
       obtain ⟨y, hy, rfl⟩ := List.mem_map.1 ha
       rcases h2 y hy with h3 | h3
       ·
        exact hno (e ▸ h3)
       ·
        rw [e] at h3; omega
      ·
       rcases List.mem_append.1 hy with hy | hy
       ·
        rcases h2 y hy with h3 | h3
        ·
         exact .inl h3
        ·
         exact .inr (by show y.f0.f1 < d.f1 + 1; omega)
       ·
        simp at hy; subst hy; exact .inr (by show d.f1 < d.f1 + 1; omega)
theorem backG_nodup {s : List Node} {d : Dot} {m : List Dot} {g : List LostE} (h : backOk s d m g = true) : ((backG s d m g).1.map (·.f0)).Nodup := by
 unfold backOk validC at h
 simp only [Bool.and_eq_true, decide_eq_true_eq] at h
 exact goneN_nodup s g d _ _ ((madeC_sub s m).nodup h.2.2.2.1) fun x hx => .inl (madeC_in hx)
theorem goneN_len (s : List Node) : ∀ (g : List LostE) (d : Dot) (t : Int) (o : List Node), (goneN s g d t o).1.length ≤ o.length + g.length
 | [], _, _, _ => Nat.le_refl _
 | x :: g, d, t, o => by
  rw [goneN]
  split
  ·
   have := goneN_len s g d t o; simp only [List.length_cons]; omega
  ·
   split
   ·
    have := goneN_len s g d t o; simp only [List.length_cons]; omega
   ·
    split
    ·
     exact Nat.zero_le _
    ·
     split
     ·
      exact Nat.zero_le _
     ·
      have := goneN_len s g ⟨d.f0, d.f1 + 1⟩ (t + 1) (o ++ [⟨d, x.f0, t + 1, x.f1⟩]); simp only [List.length_append, List.length_cons, List.length_nil] at this ⊢; omega
theorem backG_len (s : List Node) (d : Dot) (m : List Dot) (g : List LostE) : (backG s d m g).1.length ≤ m.length + g.length := by
 have h1 := goneN_len s g d (timeOf s) (madeC s m)
 have h2 := madeC_len s m
 unfold backG; omega
theorem backG_sort {s : List Node} {d : Dot} {m : List Dot} {g : List LostE} (h : backOk s d m g = true) {ys : List Node} (hp : ys.Perm (backG s d m g).1) (hs : ys.Pairwise (fun a b => dotLt b.f0 a.f0 = false)) : ys = sortD (backG s d m g).1 :=
 inc_perm (hp.trans (sortD_perm _).symm) hs (sortD_inc (backG_nodup h))
def undo_Back.f (l0 : List Node) (a b : Int) (l2 : List Dot) (l3 : List LostE) : Option (List Node × List Dot × List LostE × Int) := if l0.length + l2.length + l3.length ≤ 150000 then some (backR l0 ⟨a, b⟩ l2 l3) else none
end
section
theorem results_back {fn : Func} {q p u : Tmp} (h : fn.results = #[.tmp q, .cell p 28, .tmp u]) (tmps : Array Value) (w : World) (g : Nat) (c0 c1 : Value)
  (hp : tmps.getD p undef = .pointer (some ⟨g, 0, none⟩)) (hg : w.heap[g]? = some (chgC c0 c1)) :
  (results fn tmps).run Tryz.prog w = .ok (.tuple #[tmps.getD q undef, .agg #[c0, c1], tmps.getD u undef]) w := by
 have h2 := run_loadVar_row (P := Tryz.prog) w g 28 28 #[c0, c1] (0, 0) _ hg Tryz.underlying28 rfl (by kernel_rfl)
 have hp2 : tmps[p]?.getD undef = .pointer (some ⟨g, 0, none⟩) := by rw [← hp]; simp
 simp only [results, h]
 simp [Sem.run_bind, Result.andThen, hp2, asAddr, h2]
theorem op_boxChg {o : Oper} {a : Act} {K : Act → World → Prop} {Q : Exit → Act → World → Prop} (s x : Operand) (ho : o.op = .store 28 s x) (hd : o.dst = none) {w : World} {g : Nat} {c0 c1 : Value}
  (hg : w.heap[g]? = some (chgC c0 c1)) (u v : Value) (hs : a.eval s = .pointer (some ⟨g, 0, none⟩)) (hx : a.eval x = .agg #[u, v]) (hu : u.oneCell' = true) (hv : v.oneCell' = true)
  (hk : ∀ w', w'.heap[g]? = some (chgC u v) → w.grownBy w' (some g) → K a w') : o.wp Tryz.prog a w K Q := by
 obtain ⟨i0, hi0, hz0, hz1, hz2⟩ := info_parts infoC
 refine wp_store_row 28 s x ho g _ hs hx 28 _ hg (by rw [hi0]; show some i0.size = some 2; rw [hz1]) rfl (Array.all_eq_true_iff_forall_mem.2 (by intro q hq; simp at hq; rcases hq with rfl | rfl <;> assumption)) ?_
 rw [hd]
 exact hk _ (setRow_at hg _) (setRow_grown w g _)
theorem app_node1 {ops : Array Oper} {rest : List Oper} {o : Oper} {a : Act} {Q : Exit → Act → World → Prop} {W : World} (base : Nat) (hgd : o.guard = none) (s x : Operand)
  (ho : o.op = .call { callee := .builtin .append, args := #[s, x], argTypes := #[23, 23] }) (v : Value) (xs : List Node) (p : Node) (hs : a.eval s = v) (hx : a.eval x = .slice (some ⟨W.heap.size, 0, none⟩) 1 1)
  (hr : RN W base v xs) (hb : base ≤ W.heap.size) (hl : xs.length ≤ 1000000)
  (h : ∀ v1 w1, RN w1 base v1 (xs ++ [p]) → W.grownBy w1 v.ownBlock → wpList Tryz.prog ops Q rest (a.put o.dst v1) w1) : wpList Tryz.prog ops Q (o :: rest) a (W.alloc (boxN p)) := by
 refine Kd.R_append k42 (w0 := W) base hgd s x 23 42 (.agg #[(.int .i64 0), (.int .i64 0), (.int .i64 0), (.int .i64 0), (.int .i64 0), (.int .i32 0)]) 48 ho Tryz.underlying23 info42 rfl (by decide) (by decide) v xs p _ (fun _ => True) (fun _ => False) hs hx (k42_mkM _ _ _ p) (fun _ hk => hk.elim) (fun _ _ => trivial) hr (Below.refl _ _) hb (by omega) ?_
 intro v1 w1 h1 _ h3 _
 exact h v1 w1 h1 h3
/-- What the loops of undo.Back keep. -/
structure BackF (w : World) (ga : Nat) (d : Dot) (s : List Node) (va vb u : Value) (o : List Node) (V : World) : Prop where
 b4 : V.heap[w.heap.size]? = some (dotC d)
 b5 : V.heap[w.heap.size + 1]? = some (chgC va vb)
 b7 : V.heap[w.heap.size + 1 + 1]? = some (chgC (.slice none 0 0) (.slice none 0 0))
 mp : MapLaw.MapIs vDot vNode V ga (nodesM s)
 rn : RN V w.heap.size u o
 below : Below w.heap.size w V
section
variable {w V V2 : World} {ga : Nat} {d : Dot} {s o ys : List Node} {va vb u u2 : Value}
theorem BackF.more (h : BackF w ga d s va vb u o V) (hb : Below V.heap.size V V2) : BackF w ga d s va vb u o V2 := ⟨zab h.b4 hb, zab h.b5 hb, zab h.b7 hb, h.mp.below hb, RN.below' h.rn hb, za8 h.below hb⟩
theorem BackF.own (h : BackF w ga d s va vb u o V) {g : Nat} {cs : Array Value} {t : TypeId} (hg : V.heap[g]? = some (.cells cs t (0, 0))) (ht : t ≠ 42) : some g ≠ u.ownBlock := fun e => by
 obtain ⟨_, cur, hc⟩ := h.rn.block e.symm
 rw [hg] at hc
 exact ht (Obj.cells.inj (Option.some.inj hc)).2.1
theorem BackF.nea (h : BackF w ga d s va vb u o V) : some ga ≠ u.ownBlock := fun e => by
 obtain ⟨_, cur, hc⟩ := h.rn.block e.symm
 obtain ⟨es, cl, hm, _⟩ := h.mp
 rw [hm] at hc; cases hc
theorem BackF.putN (h : BackF w ga d s va vb u o V) (hr : RN V2 w.heap.size u2 ys) (hg : V.grownBy V2 u.ownBlock) : BackF w ga d s va vb u2 ys V2 :=
 ⟨blk_grown h.b4 hg (h.own h.b4 (by decide)), blk_grown h.b5 hg (h.own h.b5 (by decide)), blk_grown h.b7 hg (h.own h.b7 (by decide)), h.mp.same (hg.block _ h.mp.lt h.nea), hr, h.below.grown hg h.below.size (fun k e => (h.rn.block e).1)⟩
theorem BackF.map_ne (h : BackF w ga d s va vb u o V) {g : Nat} {cs : Array Value} {t : TypeId} (hg : V.heap[g]? = some (.cells cs t (0, 0))) : ga ≠ g := fun e => by
 obtain ⟨es, cl, hm, _⟩ := h.mp
 rw [e, hg] at hm; cases hm
theorem BackF.box (h : BackF w ga d s va vb u o V) {g : Nat} {y : Node} (hg : V.heap[g]? = some (boxN y)) (hn : ∀ k, u.ownBlock = some k → k ≠ g) (hge : w.heap.size ≤ g) (i : Nat) (v : Value) : BackF w ga d s va vb u o (V.setCell ⟨g, i, none⟩ v) := by
 have ne : ∀ {k : Nat} {cs : Array Value} {t : TypeId}, V.heap[k]? = some (.cells cs t (0, 0)) → t ≠ 42 → k ≠ g := fun hk ht e => by
  rw [e, hg] at hk; exact ht (Obj.cells.inj (Option.some.inj hk)).2.1.symm
 exact ⟨(zav (ne h.b4 (by decide))).trans h.b4, (zav (ne h.b5 (by decide))).trans h.b5, (zav (ne h.b7 (by decide))).trans h.b7, h.mp.same (zav (h.map_ne hg)), h.rn.keep fun k hk => zav (hn k hk), below_setCell h.below hge i v⟩
theorem BackF.step (h : BackF w ga d s va vb u o V) (t : Int) : BackF w ga ⟨d.f0, t⟩ s va vb u o (V.setCell ⟨w.heap.size, 1, none⟩ (.int .i64 t)) :=
 ⟨blk_set h.b4 1 _, (zav (by omega)).trans h.b5, (zav (by omega)).trans h.b7, h.mp.same (zav (h.map_ne h.b4)), h.rn.keep fun k hk => zav (fun e => h.own h.b4 (by decide) (by rw [hk, e])), below_setCell h.below (Nat.le_refl _) 1 _⟩
end
theorem goneN_cons {s : List Node} {x : LostE} {is : Bool} {y : Node} (hi : (MapLaw.mget (nodesM s) x.f0).isSome = is) (hy : (MapLaw.mget (nodesM s) x.f0).getD nodeZ = y) (g : List LostE) (d : Dot) (t : Int) (o : List Node) :
  goneN s (x :: g) d t o = if is = true then (if y.f3 ≠ 0 then goneN s g d t o else if d.f1 > 4294967295 ∨ t + 1 > 4611686018427387904 then ([], 14) else if (MapLaw.mget (nodesM s) d).isSome = true then ([], 15) else goneN s g ⟨d.f0, d.f1 + 1⟩ (t + 1) (o ++ [⟨d, x.f0, t + 1, x.f1⟩])) else goneN s g d t o := by
 subst hi hy
 rw [goneN]
 cases MapLaw.mget (nodesM s) x.f0 <;> rfl
theorem madeF_is {s : List Node} {x : Dot} {is : Bool} {y : Node} (hi : (MapLaw.mget (nodesM s) x).isSome = is) (hy : (MapLaw.mget (nodesM s) x).getD nodeZ = y) : madeF s x = if is = true then (if y.f3 = 0 then none else some (deadN y)) else none := by
 subst hi hy
 unfold madeF
 cases MapLaw.mget (nodesM s) x <;> rfl
/-- What the last region keeps. -/
structure BackE (w : World) (u v1 v2 : Value) (l : List Node) (m : List Dot) (g : List LostE) (V : World) : Prop where
 b7 : V.heap[w.heap.size + 1 + 1]? = some (chgC v1 v2)
 rn : RN V w.heap.size u l
 rd : RD V w.heap.size v1 m
 rl : RL V w.heap.size v2 g
 below : Below w.heap.size w V
theorem BackE.put {w V V2 : World} {u v1 v2 : Value} {l : List Node} {m : List Dot} {g : List LostE} (h : BackE w u v1 v2 l m g V) (h7 : V2.heap[w.heap.size + 1 + 1]? = some (chgC v1 v2)) (hg : V.grownBy V2 (some (w.heap.size + 1 + 1))) : BackE w u v1 v2 l m g V2 := by
 refine ⟨h7, h.rn.keep fun k hk => hg.block k (h.rn.lt hk) fun e => ?_, h.rd.keep fun k hk => hg.block k (h.rd.lt hk) fun e => ?_, h.rl.keep fun k hk => ?_, h.below.grown hg h.below.size fun k e => by have := Option.some.inj e; omega⟩
 ·
  obtain ⟨_, cur, hc⟩ := h.rn.block hk
  rw [Option.some.inj e, h.b7] at hc; exact absurd (Obj.cells.inj (Option.some.inj hc)).2.1 (by decide)
 ·
  obtain ⟨_, cur, hc⟩ := h.rd.block hk
  rw [Option.some.inj e, h.b7] at hc; exact absurd (Obj.cells.inj (Option.some.inj hc)).2.1 (by decide)
 ·
  obtain ⟨_, cur, hc⟩ := h.rl.block hk
  refine hg.block k (zae hc) fun e => ?_
  rw [Option.some.inj e, h.b7] at hc; exact absurd (Obj.cells.inj (Option.some.inj hc)).2.1 (by decide)
theorem BackE.more {w V V2 : World} {u v1 v2 : Value} {l : List Node} {m : List Dot} {g : List LostE} (h : BackE w u v1 v2 l m g V) (hb : Below V.heap.size V V2) : BackE w u v1 v2 l m g V2 :=
 ⟨zab h.b7 hb, RN.below' h.rn hb, RD.below' h.rd hb, Kd.R_below h.rl hb, za8 h.below hb⟩
def backuInv (w : World) (Au : Option Addr) (nl cu : Nat) (v1 v2 : Value) (dl : List Node) (u1 : List Dot) (u2 : List LostE) (z0 z1 z2 z3 z4 z5 z9 z10 z11 z12 z13 z14 z15 z16 z17 z18 z19 z20 z21 z22 z23 z24 z25 z26 z27 z28 z29 z30 z31 z32 z33 z34 z35 z36 z37 z38 z39 z40 z41 z42 z43 z44 z45 z46 z47 z48 z49 z50 z51 z52 z53 z54 z55 z56 z57 z58 z59 z60 z61 z62 z63 z64 z65 z66 z67 z68 z69 z70 z71 z72 z73 z74 z75 z76 z77 z78 z79 z80 z81 z82 z83 z84 z85 z86 z87 z88 z89 z90 z91 z92 z93 z94 z95 z96 z97 z98 z99 z100 z101 z102 z103 z104 z105 z106 z107 z108 z109 z110 z111 z112 z113 z114 z115 z116 z117 z118 z119 z120 z121 z122 z123 z124 z125 z126 z127 z128 z129 z130 z131 z132 z133 z134 z135 z136 z137 z138 z139 z140 z141 z142 z143 z144 z145 z146 z147 z148 z149 z150 z151 z152 z153 z154 z155 z156 z157 z158 z159 z160 z161 z162 : Value) (L : Array Bool) (ac : Act) (V : World) : Prop := ∃ (l0 l1 l2 l3 l4 : Bool), L = #[l0, l1, l2, l3, l4] ∧ ac = { tmps := #[z0, z1, z2, z3, z4, z5, .slice Au nl cu, .pointer (some ⟨w.heap.size + 1 + 1, 0, none⟩), .int .i64 0, z9, z10, z11, z12, z13, z14, z15, z16, z17, z18, z19, z20, z21, z22, z23, z24, z25, z26, z27, z28, z29, z30, z31, z32, z33, z34, z35, z36, z37, z38, z39, z40, z41, z42, z43, z44, z45, z46, z47, z48, z49, z50, z51, z52, z53, z54, z55, z56, z57, z58, z59, z60, z61, z62, z63, z64, z65, z66, z67, z68, z69, z70, z71, z72, z73, z74, z75, z76, z77, z78, z79, z80, z81, z82, z83, z84, z85, z86, z87, z88, z89, z90, z91, z92, z93, z94, z95, z96, z97, z98, z99, z100, z101, z102, z103, z104, z105, z106, z107, z108, z109, z110, z111, z112, z113, z114, z115, z116, z117, z118, z119, z120, z121, z122, z123, z124, z125, z126, z127, z128, z129, z130, z131, z132, z133, z134, z135, z136, z137, z138, z139, z140, z141, z142, z143, z144, z145, z146, z147, z148, z149, z150, z151, z152, z153, z154, z155, z156, z157, z158, z159, z160, selv l0 (.slice Au nl cu) (z161), selv l1 (.agg #[v1, v2]) (z162)], defers := [] } ∧ za0 (BackE w (.slice Au nl cu) v1 v2 dl u1 u2 V)
set_option maxHeartbeats 4000000 in
set_option maxRecDepth 100000 in
theorem undo_Back.calls (A0 : Option Addr) (c0 : Nat) (l0 : List Node) (a1_0 a1_1 : Int) (A2 : Option Addr) (c2 : Nat) (l2 : List Dot) (A3 : Option Addr) (c3 : Nat) (l3 : List LostE) (r1 : List Node) (r2 : List Dot) (r3 : List LostE) (r4 : Int) (w : World)
  (hr0 : Kd.C k42 w A0 l0.length l0) (hc0 : l0.length ≤ c0) (hr2 : Kd.C k39 w A2 l2.length l2) (hc2 : l2.length ≤ c2) (hr3 : Kd.C k68 w A3 l3.length l3) (hc3 : l3.length ≤ c3) (h : undo_Back.f l0 a1_0 a1_1 l2 l3 = some (r1, r2, r3, r4)) :
  Calls Tryz.prog 18 #[.slice A0 l0.length c0, .agg #[.int .i64 a1_0, .int .i64 a1_1], .agg #[.slice A2 l2.length c2, .slice A3 l3.length c3]] w fun e w' => ∃ v0 v1 v2 : Value, e = .returned (.tuple #[v0, .agg #[v1, v2], .int .i64 r4]) ∧ Kd.R k42 42 w' w.heap.size (fun _ => True) v0 r1 ∧ Kd.R k39 39 w' w.heap.size (fun _ => True) v1 r2 ∧ Kd.R k68 68 w' w.heap.size (fun _ => True) v2 r3 ∧ Below w.heap.size w w' := by
 unfold undo_Back.f at h
 by_cases hl : l0.length + l2.length + l3.length ≤ 150000
 rotate_left
 ·
  rw [if_neg hl] at h; cases h
 rw [if_pos hl] at h
 obtain ⟨d, rfl, rfl⟩ : ∃ d : Dot, d.f0 = a1_0 ∧ d.f1 = a1_1 := ⟨⟨a1_0, a1_1⟩, rfl, rfl⟩
 have HRES : za0 (backR l0 d l2 l3 = (r1, r2, r3, r4)) := ⟨Option.some.inj h⟩
 have HL := za0.mk hl
 have HR0 := za0.mk hr0
 have HR2 := za0.mk hr2
 have HR3 := za0.mk hr3
 have HC0 := za0.mk hc0
 obtain ⟨b0, Hb0⟩ : ∃ b, za0 (storeOk l0 = b) := ⟨_, ⟨rfl⟩⟩
 obtain ⟨b1, Hb1⟩ : ∃ b, za0 (wellB l0 = b) := ⟨_, ⟨rfl⟩⟩
 obtain ⟨bv, Hbv⟩ : ∃ b, za0 (validC l2 l3 = b) := ⟨_, ⟨rfl⟩⟩
 obtain ⟨bk, Hbk⟩ : ∃ b, za0 (backOk l0 d l2 l3 = b) := ⟨_, ⟨rfl⟩⟩
 have HV0 := za0.mk (fun W (hb : Below w.heap.size w W) => join_Valid.calls A0 c0 l0 b0 W (Kd.C_below hr0 hb) hc0 (by unfold join_Valid.f store_Valid.f; rw [if_pos (by omega), Hb0.out]; rfl))
 have HW0 := za0.mk (fun W (hb : Below w.heap.size w W) => shape_Well.calls A0 c0 l0 b1 W (Kd.C_below hr0 hb) hc0 (by rw [well_is (by omega), Hb1.out]))
 have HVC := za0.mk (fun W (hb : Below w.heap.size w W) => valid_call A2 l2.length c2 l2 A3 l3.length c3 l3 W (Kd.C_below hr2 hb) (Kd.C_below hr3 hb) (by omega))
 have HM0 := za0.mk (fun W (hb : Below w.heap.size w W) => nodes_call A0 l0.length c0 l0 W (Kd.C_below hr0 hb) rfl (by omega))
 have HOF := za0.mk (fun (Au : Option Addr) (cu : Nat) (lu : List Node) (u1 : List Dot) (u2 : List LostE) (u3 : Int) (W : World) (hb : Below w.heap.size w W) (hu : Kd.C k42 W Au lu.length lu) (hcu : lu.length ≤ cu) (hlu : lu.length ≤ 150000) (e : undoOfR l0 lu = (u1, u2, u3)) => undo_Of.calls A0 c0 l0 Au cu lu u1 u2 u3 W (Kd.C_below hr0 hb) hc0 hu hcu (by unfold undo_Of.f; rw [if_pos (by omega), e]))
 have hu := Tryz.underlying42
 have hu2 := Tryz.underlying39
 have hu3 := Tryz.underlying28
 have hu4 := Tryz.underlying68
 obtain ⟨n0, Hn0⟩ : ∃ n, za0 (l0.length = n) := ⟨_, ⟨rfl⟩⟩
 obtain ⟨n2, Hn2⟩ : ∃ n, za0 (l2.length = n) := ⟨_, ⟨rfl⟩⟩
 obtain ⟨n3, Hn3⟩ : ∃ n, za0 (l3.length = n) := ⟨_, ⟨rfl⟩⟩
 rw [Hn0.out] at HV0 HW0 HM0 HR0 HL HC0 HOF
 rw [Hn2.out] at HVC HR2 HL
 rw [Hn3.out] at HVC HR3 HL
 rw [Hn0.out, Hn2.out, Hn3.out]
 rw [Hbv.out] at HVC
 clear h hl hr0 hr2 hr3 hc0 hc2 hc3
 have HBA : za0 (((((w.alloc (dotC d)).alloc (chgC (.slice A2 n2 c2) (.slice A3 n3 c3))).alloc (chgC (.slice none 0 0) (.slice none 0 0))).heap[w.heap.size]? = some (dotC d) ∧ (((w.alloc (dotC d)).alloc (chgC (.slice A2 n2 c2) (.slice A3 n3 c3))).alloc (chgC (.slice none 0 0) (.slice none 0 0))).heap[w.heap.size + 1]? = some (chgC (.slice A2 n2 c2) (.slice A3 n3 c3)) ∧ (((w.alloc (dotC d)).alloc (chgC (.slice A2 n2 c2) (.slice A3 n3 c3))).alloc (chgC (.slice none 0 0) (.slice none 0 0))).heap[w.heap.size + 1 + 1]? = some (chgC (.slice none 0 0) (.slice none 0 0))) ∧ Below w.heap.size w (((w.alloc (dotC d)).alloc (chgC (.slice A2 n2 c2) (.slice A3 n3 c3))).alloc (chgC (.slice none 0 0) (.slice none 0 0)))) := ⟨by
  have h0 := zaj w (dotC d)
  have h1 := zaj (w.alloc (dotC d)) (chgC (.slice A2 n2 c2) (.slice A3 n3 c3))
  have h2 := zaj ((w.alloc (dotC d)).alloc (chgC (.slice A2 n2 c2) (.slice A3 n3 c3))) (chgC (.slice none 0 0) (.slice none 0 0))
  rw [World.size_alloc] at h1
  rw [World.size_alloc, World.size_alloc] at h2
  exact ⟨⟨za6 (za6 h0 _) _, za6 h1 _, h2⟩, za2 (za2 (za2 (Below.refl _ w) _) _) _⟩⟩
 go_enter Tryz.func18, Tryz.ntmps18
 go_upto_region 1 with (fail)
 have HZ := za0.mk HBA.out.1
 have HB := za0.mk HBA.out.2
 clear HBA
 generalize ((w.alloc (dotC d)).alloc (chgC (.slice A2 n2 c2) (.slice A3 n3 c3))).alloc (chgC (.slice none 0 0) (.slice none 0 0)) = V at *
 go_cut [55] from 23 (fun s55 wc => s55 = .bool (!bk) ∧ za0 (wc.heap[w.heap.size]? = some (dotC d) ∧ wc.heap[w.heap.size + 1]? = some (chgC (.slice A2 n2 c2) (.slice A3 n3 c3)) ∧ wc.heap[w.heap.size + 1 + 1]? = some (chgC (.slice none 0 0) (.slice none 0 0))) ∧ za0 (Below w.heap.size w wc))
 case first =>
  clear HM0 HOF HRES
  have HKP : za0 (∀ W W' : World, (W.heap[w.heap.size]? = some (dotC d) ∧ W.heap[w.heap.size + 1]? = some (chgC (.slice A2 n2 c2) (.slice A3 n3 c3)) ∧ W.heap[w.heap.size + 1 + 1]? = some (chgC (.slice none 0 0) (.slice none 0 0))) → Below W.heap.size W W' → (W'.heap[w.heap.size]? = some (dotC d) ∧ W'.heap[w.heap.size + 1]? = some (chgC (.slice A2 n2 c2) (.slice A3 n3 c3)) ∧ W'.heap[w.heap.size + 1 + 1]? = some (chgC (.slice none 0 0) (.slice none 0 0)))) := ⟨fun W W' h hb => ⟨zab h.1 hb, zab h.2.1 hb, zab h.2.2 hb⟩⟩
  go_wp2_with fail
  refine (HV0.out _ HB.out).mono ?_
  rintro e V0 ⟨rfl, hb⟩
  have HZ := za0.mk (HKP.out _ _ HZ.out hb)
  have HB := za0.mk (za8 HB.out hb)
  clear hb HV0
  cases b0
  ·
   go_wp2
   go_meet
   case rel => exact ⟨by rw [← Hbk.out]; unfold backOk; rw [Hb0.out]; rfl, HZ, HB⟩
  go_wp2_with fail
  refine (HW0.out _ HB.out).mono ?_
  rintro e V1 ⟨rfl, hb⟩
  have HZ := za0.mk (HKP.out _ _ HZ.out hb)
  have HB := za0.mk (za8 HB.out hb)
  clear hb HW0
  cases b1
  ·
   go_wp2
   go_meet
   case rel => exact ⟨by rw [← Hbk.out]; unfold backOk; rw [Hb0.out, Hb1.out]; rfl, HZ, HB⟩
  have z0 : V1.cell? ⟨w.heap.size, 0, none⟩ = some (.int .i64 d.f0) := (za4 HZ.out.1 0).trans rfl
  have z1 : V1.cell? ⟨w.heap.size, 1, none⟩ = some (.int .i64 d.f1) := (za4 HZ.out.1 1).trans rfl
  have z2 : V1.cell? ⟨w.heap.size + 1, 0, none⟩ = some (.slice A2 n2 c2) := (za4 HZ.out.2.1 0).trans rfl
  have z3 : V1.cell? ⟨w.heap.size + 1, 1, none⟩ = some (.slice A3 n3 c3) := (za4 HZ.out.2.1 1).trans rfl
  have HBK : za0 ((decide (1 ≤ d.f0 ∧ d.f0 ≤ 64 ∧ 1 ≤ d.f1 ∧ d.f1 ≤ 4294967295) && bv) = bk) := ⟨by rw [← Hbk.out]; unfold backOk; rw [Hb0.out, Hb1.out, Hbv.out]; rfl⟩
  by_cases h1 : d.f0 < 1
  ·
   go_wp2
   go_meet
   case rel => exact ⟨by rw [← HBK.out, show decide (1 ≤ d.f0 ∧ d.f0 ≤ 64 ∧ 1 ≤ d.f1 ∧ d.f1 ≤ 4294967295) = false from decide_eq_false (by omega)]; simp, HZ, HB⟩
  by_cases h2 : d.f0 > 64
  ·
   go_wp2
   go_meet
   case rel => exact ⟨by rw [← HBK.out, show decide (1 ≤ d.f0 ∧ d.f0 ≤ 64 ∧ 1 ≤ d.f1 ∧ d.f1 ≤ 4294967295) = false from decide_eq_false (by omega)]; simp, HZ, HB⟩
  by_cases h3 : d.f1 < 1
  ·
   go_wp2
   go_meet
   case rel => exact ⟨by rw [← HBK.out, show decide (1 ≤ d.f0 ∧ d.f0 ≤ 64 ∧ 1 ≤ d.f1 ∧ d.f1 ≤ 4294967295) = false from decide_eq_false (by omega)]; simp, HZ, HB⟩
  by_cases h4 : d.f1 > 4294967295
  ·
   go_wp2
   go_meet
   case rel => exact ⟨by rw [← HBK.out, show decide (1 ≤ d.f0 ∧ d.f0 ≤ 64 ∧ 1 ≤ d.f1 ∧ d.f1 ≤ 4294967295) = false from decide_eq_false (by omega)]; simp, HZ, HB⟩
  go_wp2_with fail
  refine (HVC.out _ HB.out).mono ?_
  rintro e V2 ⟨rfl, hb⟩
  have HZ := za0.mk (HKP.out _ _ HZ.out hb)
  have HB := za0.mk (za8 HB.out hb)
  clear hb z0 z1 z2 z3
  go_wp2
  go_meet
  case rel => exact ⟨by rw [← HBK.out, show decide (1 ≤ d.f0 ∧ d.f0 ≤ 64 ∧ 1 ≤ d.f1 ∧ d.f1 ≤ 4294967295) = true from decide_eq_true (by omega)]; simp; intro h; omega, HZ, HB⟩
 case rest =>
  obtain ⟨rfl, HZ, HB⟩ := hcut
  have HKP : za0 (∀ W W' : World, (W.heap[w.heap.size]? = some (dotC d) ∧ W.heap[w.heap.size + 1]? = some (chgC (.slice A2 n2 c2) (.slice A3 n3 c3)) ∧ W.heap[w.heap.size + 1 + 1]? = some (chgC (.slice none 0 0) (.slice none 0 0))) → Below W.heap.size W W' → (W'.heap[w.heap.size]? = some (dotC d) ∧ W'.heap[w.heap.size + 1]? = some (chgC (.slice A2 n2 c2) (.slice A3 n3 c3)) ∧ W'.heap[w.heap.size + 1 + 1]? = some (chgC (.slice none 0 0) (.slice none 0 0)))) := ⟨fun W W' h hb => ⟨zab h.1 hb, zab h.2.1 hb, zab h.2.2 hb⟩⟩
  clear HV0 HW0 HVC
  cases bk
  ·
   clear HM0 HOF
   go_wp2_with (first | (refine zat rfl _ _ rfl rfl HZ.out.2.2 (.slice none 0 0) (.slice none 0 0) rfl rfl rfl rfl ?_; intro V9 hz1 hg1) | fail)
   have HB := za0.mk (grown_on hg1 HB.out (fun k e => by have := Option.some.inj e; omega))
   have HZ7 := za0.mk hz1
   refine bodyPost_ret (results_back rfl _ _ _ _ _ rfl HZ7.out) rfl ?_
   have h := HRES.out
   unfold backR at h
   rw [if_neg (by rw [Hbk.out]; decide)] at h
   cases h
   exact ⟨_, _, _, rfl, Kd.R_nil _ _ _ _ _, Kd.R_nil _ _ _ _ _, Kd.R_nil _ _ _ _ _, HB.out⟩
  obtain ⟨R, HR⟩ : ∃ R, za0 (backG l0 d l2 l3 = R) := ⟨_, ⟨rfl⟩⟩
  have HRE : za0 (backE R (undoOfR l0 (sortD R.1)) = (r1, r2, r3, r4)) := ⟨by
   have h := HRES.out
   unfold backR at h
   rwa [if_pos Hbk.out, HR.out] at h⟩
  have HSR : za0 (storeOk l0 = true) := ⟨by have h := Hbk.out; unfold backOk at h; simp only [Bool.and_eq_true] at h; exact h.1⟩
  have HDR : za0 (1 ≤ d.f1 ∧ d.f1 ≤ 4294967295) := ⟨by have h := Hbk.out; unfold backOk at h; simp only [Bool.and_eq_true, decide_eq_true_eq] at h; exact h.2.2.1.2.2⟩
  clear HRES
  go_wp2_with fail
  refine (HM0.out _ HB.out).mono ?_
  rintro e V1 ⟨ga, rfl, hga, hma, hb⟩
  have HMA := za0.mk hma
  have HZ := za0.mk (HKP.out _ _ HZ.out hb)
  have HB := za0.mk (za8 HB.out hb)
  have HMG := za0.mk hga
  clear hb hma HM0 hga
  go_wp2_with fail
  go_loopw [10, 61] (fun t i wr => ∃ k : Nat, t = .int .i64 (timeOf (l0.take k)) ∧ i = .int .i64 k ∧ k ≤ n0 ∧ za0 (Below V1.heap.size V1 wr)) (fun _ i _ => n0 - (intOf i).toNat)
  case atStart => exact ⟨0, rfl, rfl, Nat.zero_le _, ⟨Below.refl _ _⟩⟩
  case round =>
   obtain ⟨k, rfl, rfl, hk, HG⟩ := hrel
   by_cases hlt : k < n0
   ·
    obtain ⟨x, Hx⟩ : ∃ x, za0 (l0[k]? = some x) := ⟨_, ⟨List.getElem?_eq_getElem (by rw [Hn0.out]; exact hlt)⟩⟩
    have HTS := za0.mk (timeOf_succ Hx.out)
    obtain ⟨ad, e, y0, y1, y2, y3, y4, y5⟩ := node_at HR0.out (za8 HB.out HG.out) k x Hx.out
    subst e
    obtain ⟨t, Ht⟩ : ∃ t, za0 (timeOf (l0.take k) = t) := ⟨_, ⟨rfl⟩⟩
    rw [Ht.out] at HTS ⊢
    have hkn : k < n0 ∧ n0 ≤ 150000 := ⟨hlt, by have := HL.out; omega⟩
    clear HOF HRE
    go_wp2
    go_roundw
    case rel => exact ⟨k + 1, by rw [HTS.out]; congr 1; split <;> omega, by go_num, by omega, ⟨za8 HG.out (za2 (Below.refl _ wr) (boxN x))⟩⟩
    case measure => simp [intOf]; omega
   obtain rfl : k = n0 := by omega
   have HF0 : za0 (BackF w ga d l0 (.slice A2 n2 c2) (.slice A3 n3 c3) (.slice none 0 0) (madeC l0 (l2.take 0)) wr) := ⟨⟨zab HZ.out.1 HG.out, zab HZ.out.2.1 HG.out, zab HZ.out.2.2 HG.out, HMA.out.below HG.out, Kd.R_nil _ _ _ _ _, za8 HB.out HG.out⟩⟩
   rw [List.take_of_length_le (Nat.le_of_eq Hn0.out)]
   have HTM : za0 (0 ≤ timeOf l0 ∧ timeOf l0 ≤ 4611686018427387904) := ⟨(time_ge l0).1, time_le (store_of HSR.out)⟩
   obtain ⟨tm, Htm⟩ : ∃ t, za0 (timeOf l0 = t) := ⟨_, ⟨rfl⟩⟩
   rw [Htm.out] at HTM ⊢
   clear HB HZ HKP HMA HG
   have z2 : wr.cell? ⟨w.heap.size + 1, 0, none⟩ = some (.slice A2 n2 c2) := (za4 HF0.out.b5 0).trans rfl
   go_wp2_with fail
   clear z2
   generalize wr = U1 at *
   go_loopw [6, 73] (fun s i wr => ∃ k : Nat, i = .int .i64 k ∧ k ≤ n2 ∧ za0 (BackF w ga d l0 (.slice A2 n2 c2) (.slice A3 n3 c3) s (madeC l0 (l2.take k)) wr)) (fun _ i _ => n2 - (intOf i).toNat)
   case atStart => exact ⟨0, rfl, Nat.zero_le _, HF0⟩
   case round =>
    obtain ⟨j, rfl, hj, HF⟩ := hrel
    by_cases hlt : j < n2
    ·
     clear HOF HRE HF0
     obtain ⟨x, Hx⟩ : ∃ x, za0 (l2[j]? = some x) := ⟨_, ⟨List.getElem?_eq_getElem (by rw [Hn2.out]; exact hlt)⟩⟩
     have HMS := za0.mk (madeC_succ (s := l0) Hx.out)
     obtain ⟨ad, e, y0, y1⟩ := dot_row HR2.out HF.out.below j x Hx.out
     subst e
     obtain ⟨y, Hy⟩ : ∃ o, za0 ((MapLaw.mget (nodesM l0) x).getD nodeZ = o) := ⟨_, ⟨rfl⟩⟩
     obtain ⟨is, His⟩ : ∃ b, za0 ((MapLaw.mget (nodesM l0) x).isSome = b) := ⟨_, ⟨rfl⟩⟩
     have HKA := za0.mk (HF.out.mp.below (za2 (Below.refl _ wr) (dotC x)))
     have hkn : j < n2 ∧ n2 ≤ 150000 := ⟨hlt, by have := HL.out; omega⟩
     go_upto_region 14 with (first | (at_lookup; refine MapLaw.wpList_lookup rfl _ _ _ true rfl dotKey Tryz.underlying76 (z := .agg #[.int .i64 0, .int .i64 0, .int .i64 0, .int .i64 0, .int .i64 0, .int .i32 0]) Tryz.zeroValue42 x rfl rfl HKA.out (lk_node _ _ Hy.out) His.out ?_) | fail)
     have hba := za8 (za2 (Below.refl _ wr) (dotC x)) (za2 (Below.refl _ (wr.alloc (dotC x))) (boxN y))
     have HY := za0.mk (zaj (wr.alloc (dotC x)) (boxN y))
     rw [World.size_alloc] at HY
     have HOX : za0 (∀ g, u6.ownBlock = some g → g ≠ wr.heap.size + 1) := ⟨fun g hg => by have := RN.lt HF.out.rn hg; omega⟩
     have HGE : za0 (w.heap.size ≤ wr.heap.size + 1) := ⟨by have := HF.out.below.size; omega⟩
     have HF := za0.mk (HF.out.more hba)
     have HMF := za0.mk (madeF_is His.out Hy.out)
     clear hba y0 y1 HKA His Hy
     generalize (wr.alloc (dotC x)).alloc (boxN y) = V at *
     generalize wr.heap.size = gx at *
     have HCL : za0 ((madeC l0 (l2.take j)).length ≤ 1000000) := ⟨by have := madeC_len l0 (l2.take j); rw [List.length_take] at this; omega⟩
     have z5 : V.cell? ⟨gx + 1, 5, none⟩ = some (.int .i32 y.f3) := (za4 HY.out 5).trans rfl
     have f5 := za9 HY.out 5
     cases is
     ·
      go_wp2
      go_roundw
      case rel => exact ⟨j + 1, by go_num, by omega, by rw [HMS.out, HMF.out, if_neg (by decide)]; simp only [Option.toList_none, List.append_nil]; exact HF⟩
      case measure => simp [intOf]; omega
     by_cases hy : y.f3 = 0
     ·
      have hq : (y.f3 != 0) = false := by rw [hy]; rfl
      have HUY := za0.mk hy
      clear hy
      go_wp2
      go_roundw
      case rel => exact ⟨j + 1, by go_num, by omega, by rw [HMS.out, HMF.out, if_pos rfl, if_pos HUY.out]; simp only [Option.toList_none, List.append_nil]; exact HF⟩
      case measure => simp [intOf]; omega
     have hq : (y.f3 != 0) = true := bne_iff_ne.2 hy
     have HUY := za0.mk hy
     clear hy
     go_upto_region 16 with (fail)
     clear z5 f5
     have HF := za0.mk (HF.out.box HY.out HOX.out HGE.out 5 (.int .i32 0))
     have HY : za0 ((V.setCell ⟨gx + 1, 5, none⟩ (.int .i32 0)).heap[gx + 1]? = some (boxN (deadN y))) := ⟨blk_set HY.out 5 (.int .i32 0)⟩
     generalize V.setCell ⟨gx + 1, 5, none⟩ (.int .i32 0) = V6 at *
     obtain ⟨x0, x1, x2, x3, x4, x5⟩ := box_six HY.out
     go_wp2_with (first | (at_builtin; refine app_node1 w.heap.size rfl _ _ rfl u6 _ (deadN y) rfl rfl HF.out.rn HF.out.below.size HCL.out ?_; intro v2 V2 hr2 hg2) | fail)
     have HF := za0.mk (HF.out.putN hr2 hg2)
     clear hr2 hg2
     go_roundw
     case rel => exact ⟨j + 1, by go_num, by omega, by rw [HMS.out, HMF.out, if_pos rfl, if_neg HUY.out]; exact HF⟩
     case measure => simp [intOf]; omega
    obtain rfl : j = n2 := by omega
    rw [List.take_of_length_le (Nat.le_of_eq Hn2.out)] at HF
    clear HF0
    have HG : za0 (goneN l0 (l3.drop 0) d tm (madeC l0 l2) = R) := ⟨by have h := HR.out; unfold backG at h; rwa [Htm.out] at h⟩
    have HBD : za0 (1 ≤ d.f1 ∧ d.f1 ≤ 4294967296 ∧ (madeC l0 l2).length ≤ j + 0) := ⟨by have := HDR.out; have := madeC_len l0 l2; have := Hn2.out; omega⟩
    have z3 : wr.cell? ⟨w.heap.size + 1, 1, none⟩ = some (.slice A3 n3 c3) := (za4 HF.out.b5 1).trans rfl
    go_wp2_with fail
    clear z3
    generalize wr = U2 at *
    go_loopw [6, 10, 98] (fun s t i wr => ∃ (k : Nat) (t' : Int) (q : Dot) (o : List Node), t = .int .i64 t' ∧ i = .int .i64 k ∧ k ≤ n3 ∧ za0 (0 ≤ t' ∧ t' ≤ 4611686018427387904) ∧ za0 (1 ≤ q.f1 ∧ q.f1 ≤ 4294967296 ∧ o.length ≤ j + k) ∧ za0 (goneN l0 (l3.drop k) q t' o = R) ∧ za0 (BackF w ga q l0 (.slice A2 j c2) (.slice A3 n3 c3) s o wr)) (fun _ _ i _ => n3 - (intOf i).toNat)
    case atStart => exact ⟨0, tm, d, _, rfl, rfl, Nat.zero_le _, HTM, HBD, HG, HF⟩
    case round =>
     clear HTM HBD HG HF HDR
     obtain ⟨k, t, q, o, rfl, rfl, hk, HTM, HBD, HG, HF⟩ := hrel
     by_cases hlt : k < n3
     ·
      clear HOF
      obtain ⟨x, Hx⟩ : ∃ x, za0 (l3[k]? = some x) := ⟨_, ⟨List.getElem?_eq_getElem (by rw [Hn3.out]; exact hlt)⟩⟩
      obtain ⟨y, Hy⟩ : ∃ o, za0 ((MapLaw.mget (nodesM l0) x.f0).getD nodeZ = o) := ⟨_, ⟨rfl⟩⟩
      obtain ⟨is, His⟩ : ∃ b, za0 ((MapLaw.mget (nodesM l0) x.f0).isSome = b) := ⟨_, ⟨rfl⟩⟩
      have HG : za0 ((if is = true then (if y.f3 ≠ 0 then goneN l0 (l3.drop (k + 1)) q t o else if q.f1 > 4294967295 ∨ t + 1 > 4611686018427387904 then ([], 14) else if (MapLaw.mget (nodesM l0) q).isSome = true then ([], 15) else goneN l0 (l3.drop (k + 1)) ⟨q.f0, q.f1 + 1⟩ (t + 1) (o ++ [⟨q, x.f0, t + 1, x.f1⟩])) else goneN l0 (l3.drop (k + 1)) q t o) = R) := ⟨by
       obtain ⟨hk', e⟩ := List.getElem?_eq_some_iff.1 Hx.out
       have h := HG.out
       rwa [List.drop_eq_getElem_cons hk', e, goneN_cons His.out Hy.out] at h⟩
      obtain ⟨ad, e, y0, y1, y2⟩ := lost_at HR3.out HF.out.below k x Hx.out
      subst e
      have HKA := za0.mk (HF.out.mp.below (za2 (Below.refl _ wr) (lostC x)))
      have hkn : k < n3 ∧ n3 ≤ 150000 := ⟨hlt, by have := HL.out; omega⟩
      go_upto_region 22 with (first | (at_lookup; refine MapLaw.wpList_lookup rfl _ _ _ true rfl dotKey Tryz.underlying76 (z := .agg #[.int .i64 0, .int .i64 0, .int .i64 0, .int .i64 0, .int .i64 0, .int .i32 0]) Tryz.zeroValue42 x.f0 rfl rfl HKA.out (lk_node _ _ Hy.out) His.out ?_) | fail)
      have HX := za0.mk (za6 (zaj wr (lostC x)) (boxN y))
      have HY := za0.mk (zaj (wr.alloc (lostC x)) (boxN y))
      rw [World.size_alloc] at HY
      have HF := za0.mk (HF.out.more (za8 (za2 (Below.refl _ wr) (lostC x)) (za2 (Below.refl _ (wr.alloc (lostC x))) (boxN y))))
      clear y0 y1 y2 HKA
      generalize (wr.alloc (lostC x)).alloc (boxN y) = V at *
      generalize wr.heap.size = gx at *
      have z5 : V.cell? ⟨gx + 1, 5, none⟩ = some (.int .i32 y.f3) := (za4 HY.out 5).trans rfl
      cases is
      ·
       go_wp2
       go_roundw
       case rel => exact ⟨k + 1, t, q, o, rfl, by go_num, by omega, HTM, ⟨by have := HBD.out; omega⟩, ⟨by have h := HG.out; rwa [if_neg (by decide)] at h⟩, HF⟩
       case measure => simp [intOf]; omega
      by_cases hy : y.f3 = 0
      rotate_left
      ·
       have hq : (y.f3 != 0) = true := bne_iff_ne.2 hy
       have HUY := za0.mk hy
       clear hy
       go_wp2
       go_roundw
       case rel => exact ⟨k + 1, t, q, o, rfl, by go_num, by omega, HTM, ⟨by have := HBD.out; omega⟩, ⟨by have h := HG.out; rwa [if_pos rfl, if_pos HUY.out] at h⟩, HF⟩
       case measure => simp [intOf]; omega
      have hq : (y.f3 != 0) = false := by rw [hy]; rfl
      have HG : za0 ((if q.f1 > 4294967295 ∨ t + 1 > 4611686018427387904 then ([], 14) else if (MapLaw.mget (nodesM l0) q).isSome = true then ([], 15) else goneN l0 (l3.drop (k + 1)) ⟨q.f0, q.f1 + 1⟩ (t + 1) (o ++ [⟨q, x.f0, t + 1, x.f1⟩])) = R) := ⟨by have h := HG.out; rwa [if_pos rfl, if_neg (fun h => h hy)] at h⟩
      clear hy
      have htb := HTM.out
      have g0 : V.cell? ⟨w.heap.size, 0, none⟩ = some (.int .i64 q.f0) := (za4 HF.out.b4 0).trans rfl
      have g1 : V.cell? ⟨w.heap.size, 1, none⟩ = some (.int .i64 q.f1) := (za4 HF.out.b4 1).trans rfl
      by_cases hs : q.f1 > 4294967295 ∨ t + 1 > 4611686018427387904
      ·
       have hR : ([], 14) = R := by have h := HG.out; rwa [if_pos hs] at h
       have HRR := za0.mk hR
       clear hR
       have HEND : za0 (∀ V9 : World, V.grownBy V9 (some (w.heap.size + 1 + 1)) → r1 = [] ∧ r2 = [] ∧ r3 = [] ∧ r4 = 14 ∧ Below w.heap.size w V9) := ⟨fun V9 hg => by
        have h := HRE.out
        rw [← HRR.out] at h
        unfold backE at h
        rw [if_pos (by decide)] at h
        cases h
        exact ⟨rfl, rfl, rfl, rfl, grown_on hg HF.out.below (fun k e => by have := Option.some.inj e; omega)⟩⟩
       by_cases hs1 : q.f1 > 4294967295
       ·
        clear hs
        go_wp2_with (first | (refine zat rfl _ _ rfl rfl HF.out.b7 (.slice none 0 0) (.slice none 0 0) rfl rfl rfl rfl ?_; intro V9 hz1 hg1) | fail)
        obtain ⟨rfl, rfl, rfl, rfl, hb⟩ := HEND.out V9 hg1
        refine bodyPost_ret (results_back rfl _ _ _ _ _ rfl hz1) rfl ?_
        exact ⟨_, _, _, rfl, Kd.R_nil _ _ _ _ _, Kd.R_nil _ _ _ _ _, Kd.R_nil _ _ _ _ _, hb⟩
       ·
        have hs2 : t + 1 > 4611686018427387904 := hs.resolve_left hs1
        clear hs
        go_wp2_with (first | (refine zat rfl _ _ rfl rfl HF.out.b7 (.slice none 0 0) (.slice none 0 0) rfl rfl rfl rfl ?_; intro V9 hz1 hg1) | fail)
        obtain ⟨rfl, rfl, rfl, rfl, hb⟩ := HEND.out V9 hg1
        refine bodyPost_ret (results_back rfl _ _ _ _ _ rfl hz1) rfl ?_
        exact ⟨_, _, _, rfl, Kd.R_nil _ _ _ _ _, Kd.R_nil _ _ _ _ _, Kd.R_nil _ _ _ _ _, hb⟩
      have HG : za0 ((if (MapLaw.mget (nodesM l0) q).isSome = true then ([], 15) else goneN l0 (l3.drop (k + 1)) ⟨q.f0, q.f1 + 1⟩ (t + 1) (o ++ [⟨q, x.f0, t + 1, x.f1⟩])) = R) := ⟨by have h := HG.out; rwa [if_neg hs] at h⟩
      have hs1 : ¬ q.f1 > 4294967295 := fun h => hs (.inl h)
      have hs2 : ¬ t + 1 > 4611686018427387904 := fun h => hs (.inr h)
      clear hs
      obtain ⟨z, Hz⟩ : ∃ o, za0 ((MapLaw.mget (nodesM l0) q).getD nodeZ = o) := ⟨_, ⟨rfl⟩⟩
      obtain ⟨was, Hwas⟩ : ∃ b, za0 ((MapLaw.mget (nodesM l0) q).isSome = b) := ⟨_, ⟨rfl⟩⟩
      rw [Hwas.out] at HG
      go_upto_region 27 with (first | (at_lookup; refine MapLaw.wpList_lookup rfl _ _ _ true rfl dotKey Tryz.underlying76 (z := .agg #[.int .i64 0, .int .i64 0, .int .i64 0, .int .i64 0, .int .i64 0, .int .i32 0]) Tryz.zeroValue42 q rfl rfl HF.out.mp (lk_node _ _ Hz.out) Hwas.out ?_) | fail)
      have HX := za0.mk (za6 HX.out (boxN z))
      have HF := za0.mk (HF.out.more (za2 (Below.refl _ V) (boxN z)))
      clear z5 g0 g1 HY Hz Hwas hq
      generalize V.alloc (boxN z) = V3 at *
      generalize V.heap.size = gz at *
      cases was
      rotate_left
      ·
       have hR : ([], 15) = R := by have h := HG.out; rwa [if_pos rfl] at h
       have h := HRE.out
       rw [← hR] at h
       unfold backE at h
       rw [if_pos (by decide)] at h
       cases h
       clear hR
       go_wp2_with (first | (refine zat rfl _ _ rfl rfl HF.out.b7 (.slice none 0 0) (.slice none 0 0) rfl rfl rfl rfl ?_; intro V9 hz1 hg1) | fail)
       refine bodyPost_ret (results_back rfl _ _ _ _ _ rfl hz1) rfl ?_
       exact ⟨_, _, _, rfl, Kd.R_nil _ _ _ _ _, Kd.R_nil _ _ _ _ _, Kd.R_nil _ _ _ _ _, grown_on hg1 HF.out.below (fun k e => by have := Option.some.inj e; omega)⟩
      have g0 : V3.cell? ⟨w.heap.size, 0, none⟩ = some (.int .i64 q.f0) := (za4 HF.out.b4 0).trans rfl
      have g1 : V3.cell? ⟨w.heap.size, 1, none⟩ = some (.int .i64 q.f1) := (za4 HF.out.b4 1).trans rfl
      have x0 : V3.cell? ⟨gx, 0, none⟩ = some (.int .i64 x.f0.f0) := (za4 HX.out 0).trans rfl
      have x1 : V3.cell? ⟨gx, 1, none⟩ = some (.int .i64 x.f0.f1) := (za4 HX.out 1).trans rfl
      have x2 : V3.cell? ⟨gx, 2, none⟩ = some (.int .i32 x.f1) := (za4 HX.out 2).trans rfl
      have HOL : za0 (o.length ≤ 1000000) := ⟨by have := HBD.out; have := HL.out; omega⟩
      have hqb : 1 ≤ q.f1 ∧ q.f1 ≤ 4294967296 := ⟨HBD.out.1, HBD.out.2.1⟩
      clear htb
      go_wp2_with (first | (at_builtin; refine app_node1 w.heap.size rfl _ _ rfl u6 o ⟨q, x.f0, t + 1, x.f1⟩ rfl rfl HF.out.rn HF.out.below.size HOL.out ?_; intro v2 V2 hr2 hg2; have hF2 := HF.out.putN hr2 hg2; have hcz : V2.cell? ⟨w.heap.size, 1, none⟩ = some (.int .i64 q.f1) := (za4 hF2.b4 1).trans rfl; have hfz := za9 hF2.b4 1) | fail)
      have HF := za0.mk (hF2.step (q.f1 + 1))
      clear hF2 hcz hfz hr2 hg2 g0 g1 x0 x1 x2
      go_roundw
      case rel => exact ⟨k + 1, t + 1, ⟨q.f0, q.f1 + 1⟩, _, rfl, by go_num, by omega, ⟨by have := HTM.out; omega⟩, ⟨by have := HBD.out; rw [List.length_append, List.length_singleton]; show 1 ≤ q.f1 + 1 ∧ q.f1 + 1 ≤ 4294967296 ∧ _; omega⟩, ⟨by have h := HG.out; rwa [if_neg (by decide)] at h⟩, HF⟩
      case measure => simp [intOf]; omega
     obtain rfl : k = n3 := by omega
     have hR : (o, 0) = R := by have h := HG.out; rwa [List.drop_of_length_le (Nat.le_of_eq Hn3.out), goneN] at h
     subst hR
     have HOL : za0 (o.length ≤ 150000) := ⟨by have := HBD.out; have := HL.out; omega⟩
     have HSO := za0.mk (sortSt_call w.heap.size u6 o wr HF.out.rn (by have := HOL.out; omega))
     clear HG HTM HBD
     go_wp2_with fail
     refine HSO.out.mono ?_
     rintro e V3 ⟨rfl, ys, hrn, hperm, hpw, ht⟩
     have hys : ys = sortD o := by
      have h := backG_sort Hbk.out (ys := ys) (by rw [HR.out]; exact hperm) hpw
      rwa [HR.out] at h
     subst hys
     have H7 : za0 (V3.heap[w.heap.size + 1 + 1]? = some (chgC (.slice none 0 0) (.slice none 0 0))) := ⟨(ht.block _ (zae HF.out.b7) (fun e => HF.out.own HF.out.b7 (by decide) e.symm)).trans HF.out.b7⟩
     have HB := za0.mk (ht.on HF.out.below fun i hi => (HF.out.rn.block hi).1)
     have HSL : za0 ((sortD o).length ≤ 150000) := ⟨by rw [(sortD_perm o).length_eq]; exact HOL.out⟩
     obtain ⟨Au, cu, rfl⟩ := RN.slice hrn
     have HRU := za0.mk hrn
     have HGX : za0 (w.heap.size + 1 + 1 < V3.heap.size) := ⟨zae H7.out⟩
     clear hrn hperm hpw ht HSO HF
     obtain ⟨dl, Hdl⟩ : ∃ l, za0 (sortD o = l) := ⟨_, ⟨rfl⟩⟩
     obtain ⟨u1, ⟨u2, ⟨ue, HU⟩⟩⟩ : ∃ u1 u2 ue, za0 (undoOfR l0 (sortD o) = (u1, u2, ue)) := ⟨_, _, _, ⟨rfl⟩⟩
     have HRE : za0 ((if ue ≠ 0 then ([], [], [], ue) else (dl, u1, u2, 0)) = (r1, r2, r3, r4)) := ⟨by
      have h := HRE.out
      unfold backE at h
      rw [if_neg (fun h => h rfl)] at h
      rw [HU.out, Hdl.out] at h
      exact h⟩
     have HOC := za0.mk (HOF.out Au cu (sortD o) u1 u2 ue V3 HB.out (RN.C HRU.out).2.2 (RN.C HRU.out).2.1 HSL.out HU.out)
     rw [Hdl.out] at HOC HRU HSL ⊢
     obtain ⟨nl, Hnl⟩ : ∃ n, za0 (dl.length = n) := ⟨_, ⟨rfl⟩⟩
     rw [Hnl.out] at HOC HRU HSL ⊢
     clear HOF HU Hdl
     go_wp2_with fail
     refine HOC.out.mono ?_
     rintro e V4 ⟨v1, v2, rfl, hrd, hrl, hb⟩
     have HRD := za0.mk hrd
     have HRL := za0.mk hrl
     have H7 := za0.mk (zab H7.out hb)
     have HB := za0.mk (za8 HB.out hb)
     have HRU := za0.mk (RN.below' HRU.out hb)
     clear hb hrd hrl HOC
     have HU1 : za0 (v1.oneCell' = true) := ⟨by obtain ⟨A, c, e⟩ := RD.slice HRD.out; rw [e]; rfl⟩
     have HV1 : za0 (v2.oneCell' = true) := ⟨by obtain ⟨A, c, e⟩ := Kd.R_slice HRL.out; rw [e]; rfl⟩
     go_upto_region 34 with (first | (refine zat rfl _ _ rfl rfl H7.out v1 v2 rfl rfl HU1.out HV1.out ?_; intro V5 hz1 hg1) | fail)
     have HBE : za0 (BackE w (.slice Au nl cu) v1 v2 dl u1 u2 V5) := ⟨by
      have hne : ∀ {g : Nat}, V3.heap.size ≤ g → some g ≠ some (w.heap.size + 1 + 1) := fun hg e => by have := Option.some.inj e; have := HGX.out; omega
      refine ⟨hz1, RN.keep HRU.out fun g hg => hg1.block g (RN.lt HRU.out hg) fun e => ?_, Kd.R_lower (RD.keep HRD.out fun g hg => hg1.block g (RD.lt HRD.out hg) (hne (RD.block HRD.out hg).1)) (by have := HGX.out; omega), Kd.R_lower (RL.keep HRL.out fun g hg => hg1.block g (by obtain ⟨_, cur, hc⟩ := RL.block HRL.out hg; exact zae hc) (hne (RL.block HRL.out hg).1)) (by have := HGX.out; omega), grown_on hg1 HB.out (fun k e => by have := Option.some.inj e; omega)⟩
      obtain ⟨_, cur, hc⟩ := RN.block HRU.out hg
      rw [Option.some.inj e, H7.out] at hc; exact absurd (Obj.cells.inj (Option.some.inj hc)).2.1 (by decide)⟩
     clear hz1 hg1 H7 HB HRU HRD HRL
     by_cases hue : ue = 0
     rotate_left
     ·
      have hq : (ue != 0) = true := bne_iff_ne.2 hue
      have h := HRE.out
      rw [if_pos hue] at h
      cases h
      clear hue
      go_wp2_with (first | (refine zat rfl _ _ rfl rfl HBE.out.b7 (.slice none 0 0) (.slice none 0 0) rfl rfl rfl rfl ?_; intro V9 hz1 hg1) | fail)
      refine bodyPost_ret (results_back rfl _ _ _ _ _ rfl hz1) rfl ?_
      exact ⟨_, _, _, rfl, Kd.R_nil _ _ _ _ _, Kd.R_nil _ _ _ _ _, Kd.R_nil _ _ _ _ _, grown_on hg1 HBE.out.below (fun k e => by have := Option.some.inj e; omega)⟩
     subst hue
     have h := HRE.out
     rw [if_neg (by decide)] at h
     cases h
     go_upto_region 36 with (fail)
     refine AnyOrder.wp_region (by kernel_rfl) (backuInv w Au nl cu v1 v2 _ _ _ _ _ _ _ _ _ _ _ _ _ _ _ _ _ _ _ _ _ _ _ _ _ _ _ _ _ _ _ _ _ _ _ _ _ _ _ _ _ _ _ _ _ _ _ _ _ _ _ _ _ _ _ _ _ _ _ _ _ _ _ _ _ _ _ _ _ _ _ _ _ _ _ _ _ _ _ _ _ _ _ _ _ _ _ _ _ _ _ _ _ _ _ _ _ _ _ _ _ _ _ _ _ _ _ _ _ _ _ _ _ _ _ _ _ _ _ _ _ _ _ _ _ _ _ _ _ _ _ _ _ _ _ _ _ _ _ _ _ _ _ _ _ _ _ _ _ _ _ _ _ _ _ _ _ _ _ _ _ _ _) ⟨false, false, false, false, false, rfl, rfl, ⟨HBE.out.more (za3 (Below.refl _ _))⟩⟩ ?step ?last
     case step =>
      rintro L ac V i ⟨l0, l1, l2, l3, l4, rfl, rfl, HF⟩ hi K hK
      have h1 : i = 0 ∨ i = 1 ∨ i = 2 ∨ i = 3 ∨ i = 4 := by
       have h1 := (AnyOrder.mem_ready hi).1
       clear hi hK
       change i < 5 at h1
       omega
      rcases h1 with rfl | rfl | rfl | rfl | rfl
      ·
       obtain rfl : l0 = false := (AnyOrder.mem_ready hi).2.1
       clear hi
       refine AnyOrder.wpOp_go rfl (by rfl) ?_
       go_wp2_with fail
       exact ⟨true, l1, l2, l3, l4, rfl, rfl, HF⟩
      ·
       obtain rfl : l1 = false := (AnyOrder.mem_ready hi).2.1
       clear hi
       have c0 := (za4 HF.out.b7 0).trans rfl
       have c1 := (za4 HF.out.b7 1).trans rfl
       refine AnyOrder.wpOp_go rfl (by rfl) ?_
       go_wp2_with fail
       exact ⟨l0, true, l2, l3, l4, rfl, rfl, HF⟩
      ·
       obtain rfl : l2 = false := (AnyOrder.mem_ready hi).2.1
       obtain rfl : l0 = true := AnyOrder.dep (q := 0) hi rfl rfl rfl
       clear hi
       simp only [sel_true, selv_true] at hK ⊢
       refine AnyOrder.wpOp_go rfl (by rfl) ?_
       go_wp2_with fail
       exact ⟨true, l1, true, l3, l4, rfl, rfl, HF⟩
      ·
       obtain rfl : l3 = false := (AnyOrder.mem_ready hi).2.1
       obtain rfl : l1 = true := AnyOrder.dep (q := 0) hi rfl rfl rfl
       obtain rfl : l2 = true := AnyOrder.dep (q := 1) hi rfl rfl rfl
       obtain rfl : l0 = true := AnyOrder.dep (q := 2) hi rfl rfl rfl
       clear hi
       simp only [sel_true, selv_true] at hK ⊢
       refine AnyOrder.wpOp_go rfl (by rfl) ?_
       refine op_boxChg (.tmp 7) (.tmp 162) rfl rfl HF.out.b7 v1 v2 rfl rfl HU1.out HV1.out ?_
       intro W4 h1 h2
       exact hK _ _ ⟨true, true, true, true, l4, rfl, rfl, ⟨HF.out.put h1 h2⟩⟩
      ·
       obtain rfl : l4 = false := (AnyOrder.mem_ready hi).2.1
       obtain rfl : l3 = true := AnyOrder.dep (q := 0) hi rfl rfl rfl
       obtain rfl : l0 = true := AnyOrder.dep (q := 1) hi rfl rfl rfl
       obtain rfl : l1 = true := AnyOrder.dep (q := 2) hi rfl rfl rfl
       obtain rfl : l2 = true := AnyOrder.dep (q := 3) hi rfl rfl rfl
       clear hi
       simp only [sel_true, selv_true] at hK ⊢
       refine AnyOrder.wpOp_go rfl (by rfl) ?_
       go_wp2_with fail
       exact ⟨true, true, true, true, true, rfl, rfl, HF⟩
     case last =>
      rintro L ac V ⟨l0, l1, l2, l3, l4, rfl, rfl, HF⟩ hr
      have hall := AnyOrder.all_listed rfl (by kernel_rfl) hr
      clear hr
      obtain rfl : l0 = true := hall 0 (by decide)
      obtain rfl : l1 = true := hall 1 (by decide)
      obtain rfl : l2 = true := hall 2 (by decide)
      obtain rfl : l3 = true := hall 3 (by decide)
      obtain rfl : l4 = true := hall 4 (by decide)
      clear hall
      simp only [sel_true, selv_true]
      go_wp2
      refine bodyPost_ret (results_back rfl _ _ _ _ _ rfl HF.out.b7) rfl ?_
      exact ⟨_, _, _, rfl, HF.out.rn, HF.out.rd, HF.out.rl, HF.out.below⟩
end
section
theorem app_rowsL {ops : Array Oper} {Q : Exit → Act → World → Prop} {o : Oper} {rest : List Oper} {a : Act} {W : World} (base : Nat) (hgd : o.guard = none) (s x : Operand)
  (ho : o.op = .call { callee := .builtin .append, args := #[s, x], argTypes := #[26, 26] }) (v : Value) (xs ys : List LostE) (A : Option Addr) (m c : Nat) (hs : a.eval s = v) (hx : a.eval x = .slice A m c)
  (hr : RL W base v xs) (hc : Kd.C k68 W A m ys) (hb : base ≤ W.heap.size) (hl : xs.length + m ≤ 1000000)
  (h : ∀ v1 w1, RL w1 base v1 (xs ++ ys) → W.grownBy w1 v.ownBlock → wpList Tryz.prog ops Q rest (a.put o.dst v1) w1) : wpList Tryz.prog ops Q (o :: rest) a W := by
 refine Kd.R_append_rows k68 (w0 := W) base hgd s x 26 68 (.agg #[(.int .i64 0), (.int .i64 0), (.int .i32 0)]) 24 ho Tryz.underlying26 info68 rfl (by decide) (by decide) v xs ys A m c (fun _ => True) (fun _ => False) hs hx hr hc (fun x cs h => (by rw [k68_open h]; exact k68_mkM _ _ _ x)) (fun _ hk => hk.elim) (fun _ _ => trivial) (Below.refl _ _) hb (by omega) ?_
 intro v1 w1 h1 _ h3 _
 exact h v1 w1 h1 h3
theorem RL_lit0 (W : World) : RL (W.alloc (.cells #[] 68 (0, 0))) W.heap.size (.slice (some ⟨W.heap.size, 0, none⟩) 0 0) [] := ⟨fun _ _ => trivial, [], World.ownsRow_lit W #[] 0 (Nat.le_refl _) (by decide) rfl, Reps.none _ _⟩
set_option maxRecDepth 100000 in
theorem CloneLost.calls (A0 : Option Addr) (c0 : Nat) (l0 : List LostE) (w : World) (hr0 : Kd.C k68 w A0 l0.length l0) (hl : l0.length ≤ 1000000) :
  Calls Tryz.prog 52 #[.slice A0 l0.length c0] w fun e w' => ∃ v : Value, e = .returned v ∧ RL w' w.heap.size v l0 ∧ Below w.heap.size w w' := by
 cases A0 with
 | none =>
  have hz : l0 = [] := by
   cases l0 with
   | nil => rfl
   | cons x l => obtain ⟨ad, e, _⟩ := hr0.2.2 (by simp); cases e
  subst hz
  have hq := fun (W : World) => Lib.run_eql_slice_nil_nil (P := Tryz.prog) W 0 c0 Tryz.underlying26
  clear hr0
  go_enter Tryz.func52, Tryz.ntmps52
  go_wp2
  go_ret
  exact ⟨_, rfl, Kd.R_nil _ _ _ _ _, Below.refl _ _⟩
 | some ad =>
  have hq := fun (W : World) => Lib.run_eql_slice_some_nil (P := Tryz.prog) W ad l0.length c0 Tryz.underlying26
  have HC := za0.mk (Kd.C_below hr0 (za2 (Below.refl _ w) (.cells #[] 68 (0, 0))))
  have HS : za0 (w.heap.size ≤ (w.alloc (.cells #[] 68 (0, 0))).heap.size) := ⟨by simp⟩
  obtain ⟨n, Hn⟩ : ∃ n, za0 (l0.length = n) := ⟨_, ⟨rfl⟩⟩
  rw [Hn.out] at HC hl hq ⊢
  have HL := za0.mk hl
  clear hr0 hl
  go_enter Tryz.func52, Tryz.ntmps52
  go_wp2_with (first | (at_builtin; refine app_rowsL w.heap.size rfl _ _ rfl _ [] l0 (some ad) n c0 rfl rfl (RL_lit0 w) HC.out HS.out (by have := HL.out; simp; omega) ?_; intro v1 w1 hr1 hg1) | fail)
  go_ret
  exact ⟨_, rfl, hr1, (za2 (Below.refl _ w) _).grown hg1 HS.out (fun k e => by cases (show some w.heap.size = some k from e); exact Nat.le_refl _)⟩
abbrev ChgP := S28
abbrev KC : Kd ChgP := k28
/-- An own row of changes (it may begin inside its block), whose rows are own too. -/
abbrev RC (W : World) (base : Nat) (u : Value) (xs : List ChgP) : Prop := Kd.Q KC 28 W base (fun _ => True) u xs
theorem results_chg1 {fn : Func} {p : Tmp} (h : fn.results = #[.cell p 28]) (tmps : Array Value) (w : World) (g : Nat) (c0 c1 : Value)
  (hp : tmps.getD p undef = .pointer (some ⟨g, 0, none⟩)) (hg : w.heap[g]? = some (chgC c0 c1)) : (results fn tmps).run Tryz.prog w = .ok (.agg #[c0, c1]) w := by
 have h2 := run_loadVar_row (P := Tryz.prog) w g 28 28 #[c0, c1] (0, 0) _ hg Tryz.underlying28 rfl (by kernel_rfl)
 have hp2 : tmps[p]?.getD undef = .pointer (some ⟨g, 0, none⟩) := by rw [← hp]; simp
 simp only [results, h]
 simp [Sem.run_bind, Result.andThen, hp2, asAddr, h2]
/-- What has come up in undo.copied. -/
structure CopF (w : World) (vi vj vm vg : Value) (m : List Dot) (g : List LostE) (a b d c : Bool) (V : World) : Prop where
 ord : d = true ∨ c = true → a = true ∧ b = true
 b1 : V.heap[w.heap.size]? = some (chgC vi vj)
 b2 : V.heap[w.heap.size + 1]? = some (if c = true then chgC vm vg else chgC (.slice none 0 0) (.slice none 0 0))
 rd : a = true → RD V w.heap.size vm m
 rl : b = true → RL V w.heap.size vg g
 below : Below w.heap.size w V
def copiedInv (w : World) (Am Ag : Option Addr) (cm cg : Nat) (m : List Dot) (g : List LostE) (L : Array Bool) (ac : Act) (V : World) : Prop := ∃ (l0 l1 l2 l3 l4 l5 l6 l7 : Bool) (vm : Value) (vg : Value), L = #[l0, l1, l2, l3, l4, l5, l6, l7] ∧ ac = { tmps := #[.agg #[.slice Am m.length cm, .slice Ag g.length cg], .pointer (some ⟨w.heap.size, 0, none⟩), .pointer (some ⟨w.heap.size + 1, 0, none⟩), sel l0 (.pointer (some ⟨w.heap.size, 0, none⟩)), sel l1 (.slice Am m.length cm), sel l2 (vm), sel l3 (.pointer (some ⟨w.heap.size, 1, none⟩)), sel l4 (.slice Ag g.length cg), sel l5 (vg), sel l6 (.agg #[vm, vg])], defers := [] } ∧ za0 (CopF w (.slice Am m.length cm) (.slice Ag g.length cg) vm vg m g l2 l5 l6 l7 V)
set_option maxHeartbeats 1000000 in
set_option maxRecDepth 100000 in
theorem copied_call (Am : Option Addr) (cm : Nat) (m : List Dot) (Ag : Option Addr) (cg : Nat) (g : List LostE) (w : World) (hrm : Kd.C k39 w Am m.length m) (hrg : Kd.C k68 w Ag g.length g) (hl : m.length ≤ 1000000 ∧ g.length ≤ 1000000) :
  Calls Tryz.prog 36 #[.agg #[.slice Am m.length cm, .slice Ag g.length cg]] w fun e w' => ∃ vm vg : Value, e = .returned (.agg #[vm, vg]) ∧ RD w' w.heap.size vm m ∧ RL w' w.heap.size vg g ∧ Below w.heap.size w w' := by
 have HM := za0.mk (fun W (hb : Below w.heap.size w W) => CloneDot.calls Am cm m W (Kd.C_below hrm hb) hl.1)
 have HG := za0.mk (fun W (hb : Below w.heap.size w W) => CloneLost.calls Ag cg g W (Kd.C_below hrg hb) hl.2)
 have hu3 := Tryz.underlying28
 have HF0 : za0 (CopF w (.slice Am m.length cm) (.slice Ag g.length cg) undef undef m g false false false false ((w.alloc (chgC (.slice Am m.length cm) (.slice Ag g.length cg))).alloc (chgC (.slice none 0 0) (.slice none 0 0))).drew) := ⟨by
  have h0 := zaj w (chgC (.slice Am m.length cm) (.slice Ag g.length cg))
  have h1 := zaj (w.alloc (chgC (.slice Am m.length cm) (.slice Ag g.length cg))) (chgC (.slice none 0 0) (.slice none 0 0))
  rw [World.size_alloc] at h1
  exact ⟨fun h => (by rcases h with h | h <;> cases h), za6 h0 _, h1, fun h => (by cases h), fun h => (by cases h), za8 (za2 (za2 (Below.refl _ w) _) _) (za3 (Below.refl _ _))⟩⟩
 clear hrm hrg hl
 go_enter Tryz.func36, Tryz.ntmps36
 go_upto_region 1 with (fail)
 refine AnyOrder.wp_region (by kernel_rfl) (copiedInv w Am Ag cm cg m g) ⟨false, false, false, false, false, false, false, false, undef, undef, rfl, rfl, HF0⟩ ?step ?last
 case step =>
  rintro L ac V i ⟨l0, l1, l2, l3, l4, l5, l6, l7, vm, vg, rfl, rfl, HF⟩ hi K hK
  have h1 : i = 0 ∨ i = 1 ∨ i = 2 ∨ i = 3 ∨ i = 4 ∨ i = 5 ∨ i = 6 ∨ i = 7 := by
   have h1 := (AnyOrder.mem_ready hi).1
   clear hi hK
   change i < 8 at h1
   omega
  rcases h1 with rfl | rfl | rfl | rfl | rfl | rfl | rfl | rfl
  ·
   obtain rfl : l0 = false := (AnyOrder.mem_ready hi).2.1
   clear hi
   refine AnyOrder.wpOp_go rfl (by rfl) ?_
   go_wp2_with fail
   exact ⟨true, l1, l2, l3, l4, l5, l6, l7, vm, vg, rfl, rfl, HF⟩
  ·
   obtain rfl : l1 = false := (AnyOrder.mem_ready hi).2.1
   obtain rfl : l0 = true := AnyOrder.dep (q := 0) hi rfl rfl rfl
   clear hi
   simp only [sel_true, selv_true] at hK ⊢
   have c0 := (za4 HF.out.b1 0).trans rfl
   refine AnyOrder.wpOp_go rfl (by rfl) ?_
   go_wp2_with fail
   exact ⟨true, true, l2, l3, l4, l5, l6, l7, vm, vg, rfl, rfl, HF⟩
  ·
   obtain rfl : l2 = false := (AnyOrder.mem_ready hi).2.1
   obtain rfl : l1 = true := AnyOrder.dep (q := 0) hi rfl rfl rfl
   clear hi
   simp only [sel_true, selv_true] at hK ⊢
   obtain rfl : l7 = false := by cases l7 with | false => rfl | true => cases (HF.out.ord (.inr rfl)).1
   obtain rfl : l6 = false := by cases l6 with | false => rfl | true => cases (HF.out.ord (.inl rfl)).1
   (try simp only [sel_false, selv_false] at hK ⊢)
   refine AnyOrder.wpOp_go rfl (by rfl) ?_
   go_wp2_with fail
   refine (HM.out V HF.out.below).mono ?_
   rintro e V' ⟨v, rfl, hr, hb⟩
   exact hK _ _ ⟨l0, true, true, l3, l4, l5, false, false, v, vg, rfl, rfl, ⟨⟨fun h => (by rcases h with h | h <;> cases h), zab HF.out.b1 hb, zab HF.out.b2 hb, fun _ => Kd.R_lower hr HF.out.below.size, fun h => Kd.R_below (HF.out.rl h) hb, za8 HF.out.below hb⟩⟩⟩
  ·
   obtain rfl : l3 = false := (AnyOrder.mem_ready hi).2.1
   clear hi
   refine AnyOrder.wpOp_go rfl (by rfl) ?_
   go_wp2_with fail
   exact ⟨l0, l1, l2, true, l4, l5, l6, l7, vm, vg, rfl, rfl, HF⟩
  ·
   obtain rfl : l4 = false := (AnyOrder.mem_ready hi).2.1
   obtain rfl : l3 = true := AnyOrder.dep (q := 0) hi rfl rfl rfl
   clear hi
   simp only [sel_true, selv_true] at hK ⊢
   have c1 := (za4 HF.out.b1 1).trans rfl
   refine AnyOrder.wpOp_go rfl (by rfl) ?_
   go_wp2_with fail
   exact ⟨l0, l1, l2, true, true, l5, l6, l7, vm, vg, rfl, rfl, HF⟩
  ·
   obtain rfl : l5 = false := (AnyOrder.mem_ready hi).2.1
   obtain rfl : l4 = true := AnyOrder.dep (q := 0) hi rfl rfl rfl
   obtain rfl : l2 = true := AnyOrder.dep (q := 1) hi rfl rfl rfl
   clear hi
   simp only [sel_true, selv_true] at hK ⊢
   obtain rfl : l7 = false := by cases l7 with | false => rfl | true => cases (HF.out.ord (.inr rfl)).2
   obtain rfl : l6 = false := by cases l6 with | false => rfl | true => cases (HF.out.ord (.inl rfl)).2
   (try simp only [sel_false, selv_false] at hK ⊢)
   refine AnyOrder.wpOp_go rfl (by rfl) ?_
   go_wp2_with fail
   refine (HG.out V HF.out.below).mono ?_
   rintro e V' ⟨v, rfl, hr, hb⟩
   exact hK _ _ ⟨l0, l1, true, l3, true, true, false, false, vm, v, rfl, rfl, ⟨⟨fun h => (by rcases h with h | h <;> cases h), zab HF.out.b1 hb, zab HF.out.b2 hb, fun h => Kd.R_below (HF.out.rd h) hb, fun _ => Kd.R_lower hr HF.out.below.size, za8 HF.out.below hb⟩⟩⟩
  ·
   obtain rfl : l6 = false := (AnyOrder.mem_ready hi).2.1
   obtain rfl : l2 = true := AnyOrder.dep (q := 0) hi rfl rfl rfl
   obtain rfl : l5 = true := AnyOrder.dep (q := 1) hi rfl rfl rfl
   clear hi
   simp only [sel_true, selv_true] at hK ⊢
   obtain ⟨A1, k1, rfl⟩ := RD.slice (HF.out.rd rfl)
   obtain ⟨A2, k2, rfl⟩ := Kd.R_slice (HF.out.rl rfl)
   refine AnyOrder.wpOp_go rfl (by rfl) ?_
   go_wp2_with fail
   exact ⟨l0, l1, true, l3, l4, true, true, l7, .slice A1 m.length k1, .slice A2 g.length k2, rfl, rfl, ⟨{ HF.out with ord := fun _ => ⟨rfl, rfl⟩ }⟩⟩
  ·
   obtain rfl : l7 = false := (AnyOrder.mem_ready hi).2.1
   obtain rfl : l6 = true := AnyOrder.dep (q := 0) hi rfl rfl rfl
   obtain rfl : l5 = true := AnyOrder.dep (q := 1) hi rfl rfl rfl
   obtain rfl : l0 = true := AnyOrder.dep (q := 2) hi rfl rfl rfl
   obtain rfl : l1 = true := AnyOrder.dep (q := 3) hi rfl rfl rfl
   obtain rfl : l2 = true := AnyOrder.dep (q := 4) hi rfl rfl rfl
   obtain rfl : l3 = true := AnyOrder.dep (q := 5) hi rfl rfl rfl
   obtain rfl : l4 = true := AnyOrder.dep (q := 6) hi rfl rfl rfl
   clear hi
   simp only [sel_true, selv_true] at hK ⊢
   have HU1 : za0 (vm.oneCell' = true) := ⟨by obtain ⟨A, c, e⟩ := RD.slice (HF.out.rd rfl); rw [e]; rfl⟩
   have HV1 : za0 (vg.oneCell' = true) := ⟨by obtain ⟨A, c, e⟩ := Kd.R_slice (HF.out.rl rfl); rw [e]; rfl⟩
   have hz : V.heap[w.heap.size + 1]? = some (chgC (.slice none 0 0) (.slice none 0 0)) := HF.out.b2
   have HZ := za0.mk hz
   clear hz
   refine AnyOrder.wpOp_go rfl (by rfl) ?_
   refine op_boxChg (.tmp 2) (.tmp 9) rfl rfl HZ.out vm vg rfl rfl HU1.out HV1.out ?_
   intro W4 h1 h2
   have far : ∀ {k : Nat} {cs : Array Value} {t : TypeId}, V.heap[k]? = some (.cells cs t (0, 0)) → t ≠ 28 → W4.heap[k]? = V.heap[k]? := fun hk ht => h2.block _ (zae hk) fun e => by rw [Option.some.inj e, HZ.out] at hk; exact ht (Obj.cells.inj (Option.some.inj hk)).2.1.symm
   exact hK _ _ ⟨true, true, true, true, true, true, true, true, vm, vg, rfl, rfl, ⟨⟨fun _ => ⟨rfl, rfl⟩, (h2.block _ (zae HF.out.b1) (fun e => by have := Option.some.inj e; omega)).trans HF.out.b1, h1, fun _ => RD.keep (HF.out.rd rfl) fun k hk => (by obtain ⟨_, cur, hc⟩ := RD.block (HF.out.rd rfl) hk; exact far hc (by decide)), fun _ => RL.keep (HF.out.rl rfl) fun k hk => (by obtain ⟨_, cur, hc⟩ := RL.block (HF.out.rl rfl) hk; exact far hc (by decide)), HF.out.below.grown h2 HF.out.below.size (fun k e => by have := Option.some.inj e; omega)⟩⟩⟩
 case last =>
  rintro L ac V ⟨l0, l1, l2, l3, l4, l5, l6, l7, vm, vg, rfl, rfl, HF⟩ hr
  have hall := AnyOrder.all_listed rfl (by kernel_rfl) hr
  clear hr
  obtain rfl : l0 = true := hall 0 (by decide)
  obtain rfl : l1 = true := hall 1 (by decide)
  obtain rfl : l2 = true := hall 2 (by decide)
  obtain rfl : l3 = true := hall 3 (by decide)
  obtain rfl : l4 = true := hall 4 (by decide)
  obtain rfl : l5 = true := hall 5 (by decide)
  obtain rfl : l6 = true := hall 6 (by decide)
  obtain rfl : l7 = true := hall 7 (by decide)
  clear hall
  simp only [sel_true, selv_true]
  go_wp2
  refine bodyPost_ret (results_chg1 rfl _ _ _ _ _ rfl HF.out.b2) rfl ?_
  exact ⟨_, _, rfl, HF.out.rd rfl, HF.out.rl rfl, HF.out.below⟩
end
section
theorem RD.not_chg {W : World} {base : Nat} {vm u : Value} {m : List Dot} {us : List ChgP} (h : RD W base vm m) (hu : RC W base u us) : Kd.R k39 39 W base (fun k => some k ≠ u.ownBlock) vm m := by
 cases hk : u.ownBlock with
 | none => exact Kd.R_mono h (fun k _ => by simp)
 | some g =>
  obtain ⟨_, inner, ho, _⟩ := hu
  obtain ⟨_, cells, hc⟩ := q_typed ho g hk
  exact Kd.R_mono (Kd.R_types h hc (by decide)) (fun k hk' e => hk'.2 (Option.some.inj e))
theorem RL.not_chg {W : World} {base : Nat} {vm u : Value} {m : List LostE} {us : List ChgP} (h : RL W base vm m) (hu : RC W base u us) : Kd.R k68 68 W base (fun k => some k ≠ u.ownBlock) vm m := by
 cases hk : u.ownBlock with
 | none => exact Kd.R_mono h (fun k _ => by simp)
 | some g =>
  obtain ⟨_, inner, ho, _⟩ := hu
  obtain ⟨_, cells, hc⟩ := q_typed ho g hk
  exact Kd.R_mono (Kd.R_types h hc (by decide)) (fun k hk' e => hk'.2 (Option.some.inj e))
theorem KC_M {W : World} {base : Nat} {ok : Nat → Prop} {vm vg : Value} {c : ChgP} (hm : Kd.R k39 39 W base ok vm c.f0) (hg : Kd.R k68 68 W base ok vg c.f1) : KC.M W base ok c [vm, vg] :=
 k28_mkM _ _ _ c hm hg
theorem app_chg1 {ops : Array Oper} {rest : List Oper} {o : Oper} {a : Act} {Q : Exit → Act → World → Prop} {W : World} (base : Nat) (hgd : o.guard = none) (s x : Operand)
  (ho : o.op = .call { callee := .builtin .append, args := #[s, x], argTypes := #[35, 35] }) (v vm vg : Value) (xs : List ChgP) (p : ChgP) (hs : a.eval s = v) (hx : a.eval x = .slice (some ⟨W.heap.size, 0, none⟩) 1 1)
  (hr : RC W base v xs) (hm : RD W base vm p.f0) (hg : RL W base vg p.f1) (hb : base ≤ W.heap.size) (hl : xs.length ≤ 1000000)
  (h : ∀ v1 w1, RC w1 base v1 (xs ++ [p]) → W.grownBy w1 v.ownBlock → (v1.ownBlock = v.ownBlock ∨ ∃ b, v1.ownBlock = some b ∧ W.heap.size ≤ b) → wpList Tryz.prog ops Q rest (a.put o.dst v1) w1) : wpList Tryz.prog ops Q (o :: rest) a (W.alloc (chgC vm vg)) := by
 refine Kd.Q_append KC (w0 := W) base hgd s x 35 28 (.agg #[.slice none 0 0, .slice none 0 0]) 48 ho Tryz.underlying35 infoC rfl (by decide) (by decide) v xs p [vm, vg] (fun _ => True) (fun k => some k ≠ v.ownBlock) hs hx (KC_M (RD.not_chg hm hr) (RL.not_chg hg hr)) (fun _ hk => ⟨trivial, hk⟩) (fun _ _ => trivial) hr (Below.refl _ _) hb (by omega) ?_
 intro v1 w1 h1 _ h3 h4
 exact h v1 w1 h1 h3 h4
def putC (us : List ChgP) (c : ChgP) : List ChgP := (us ++ [c]).drop (us.length + 1 - 100)
set_option maxRecDepth 100000 in
theorem cut_chg {A : Option Addr} {n c k : Nat} (hk : k ≤ n) (W : World) : (Instr.sliceAt 35 (.slice A n c) (some (.int .i64 (k : Int))) none none).run Tryz.prog W = .ok (.slice (if c = k then A else A.map (·.add (k * 2))) (n - k) (c - k)) W := by
 obtain ⟨i, hi, _, hs, _⟩ := info_get infoC
 exact run_sliced Tryz.underlying35 (cut_from _ _ .i64 Tryz.underlying35 hi 2 hs A n c (k : Int) (by omega) (by omega) W)
theorem own_cut (A : Option Addr) (c k j n m q : Nat) : (Value.slice (if c = k then A else A.map (·.add j)) m q).ownBlock = (Value.slice A n c).ownBlock := by
 split
 ·
  cases A <;> simp [Value.ownBlock]
 ·
  cases A with
  | none => simp [Value.ownBlock]
  | some a => simp only [Value.ownBlock, Option.map_some, Addr.add]; split <;> rfl
set_option maxRecDepth 100000 in
theorem put_call (base : Nat) (u vm vg : Value) (us : List ChgP) (c : ChgP) (w : World) (hr : RC w base u us) (hm : RD w base vm c.f0) (hg : RL w base vg c.f1) (hb : base ≤ w.heap.size) (hl : us.length ≤ 100000) :
  Calls Tryz.prog 35 #[u, .agg #[vm, vg]] w fun e w' => ∃ v, e = .returned v ∧ RC w' base v (putC us c) ∧ Tch (fun i => u.ownBlock = some i) w w' ∧ (v.ownBlock = u.ownBlock ∨ ∃ b, v.ownBlock = some b ∧ w.heap.size ≤ b) := by
 have hba := za2 (Below.refl _ w) (chgC vm vg)
 have HR := za0.mk (Kd.Q_below hr hba)
 have HM := za0.mk (Kd.R_below hm hba)
 have HG := za0.mk (Kd.R_below hg hba)
 have HBL : za0 (base ≤ (w.alloc (chgC vm vg)).heap.size) := ⟨by simp; omega⟩
 have HTB := za0.mk (Tch.below (E := fun i => u.ownBlock = some i) hba)
 have HSZ := za0.mk hba.size
 obtain ⟨Am, cm, rfl⟩ := RD.slice hm
 obtain ⟨Ag, cg, rfl⟩ := Kd.R_slice hg
 have HL := za0.mk hl
 have hu3 := Tryz.underlying28
 clear hr hm hg hb hl hba
 go_enter Tryz.func35, Tryz.ntmps35
 go_upto_region 1 with (fail)
 have HX := za0.mk (zaj w (chgC (.slice Am c.f0.length cm) (.slice Ag c.f1.length cg)))
 generalize w.alloc (chgC (.slice Am c.f0.length cm) (.slice Ag c.f1.length cg)) = V at *
 have z0 : V.cell? ⟨w.heap.size, 0, none⟩ = some (.slice Am c.f0.length cm) := (za4 HX.out 0).trans rfl
 have z1 : V.cell? ⟨w.heap.size, 1, none⟩ = some (.slice Ag c.f1.length cg) := (za4 HX.out 1).trans rfl
 go_upto_region 2 with (first | (at_builtin; refine app_chg1 base rfl _ _ rfl u _ _ us c rfl rfl HR.out HM.out HG.out HBL.out (by have := HL.out; omega) ?_; intro v1 w1 hr1 hg1 ho1) | fail)
 obtain ⟨A1, c1, rfl, _⟩ := Kd.Q_slice hr1
 have HT := za0.mk (HTB.out.trans (Tch.grown hg1 (E := fun i => u.ownBlock = some i) (fun r e => e)) (fun i _ e => e))
 obtain ⟨n, hn⟩ : ∃ n, us.length = n := ⟨_, rfl⟩
 have HN : za0 ((us ++ [c]).length = n + 1) := ⟨by rw [List.length_append, hn]; rfl⟩
 have hnl : n ≤ 100000 := by have := HL.out; omega
 rw [HN.out] at hr1 ho1 ⊢
 have HR1 : za0 (RC w1 base (.slice (if c1 = (n + 1 - 100) then A1 else A1.map (·.add ((n + 1 - 100) * 2))) (n + 1 - (n + 1 - 100)) (c1 - (n + 1 - 100))) (putC us c)) := ⟨by
  have h := Kd.Q_drop hr1 (k := n + 1 - 100) (by rw [HN.out]; omega)
  unfold putC; rw [hn]; exact h⟩
 have hcut := fun W => cut_chg (A := A1) (n := n + 1) (c := c1) (k := n + 1 - 100) (by omega) W
 have hmx : max (0 : Int) ((n : Int) + 1 - 100) = ((n + 1 - 100 : Nat) : Int) := by omega
 have HO : za0 ((Value.slice (if c1 = (n + 1 - 100) then A1 else A1.map (·.add ((n + 1 - 100) * 2))) (n + 1 - (n + 1 - 100)) (c1 - (n + 1 - 100))).ownBlock = u.ownBlock ∨ ∃ b, (Value.slice (if c1 = (n + 1 - 100) then A1 else A1.map (·.add ((n + 1 - 100) * 2))) (n + 1 - (n + 1 - 100)) (c1 - (n + 1 - 100))).ownBlock = some b ∧ w.heap.size ≤ b) := ⟨by
  rw [own_cut (n := n + 1)]
  exact ho1.imp id fun ⟨b, e, hb⟩ => ⟨b, e, Nat.le_trans HSZ.out hb⟩⟩
 clear hr1 hg1 ho1
 generalize n + 1 - 100 = kk at *
 generalize (if c1 = kk then A1 else A1.map (·.add (kk * 2))) = A9 at *
 go_wp2
 go_ret
 exact ⟨_, rfl, HR1.out, HT.out, HO.out⟩
end
end Go.Proofs.YtefejajofmpjdaaGreat.PWalk
end
