/-
  As many changes as can be undone, and more. Part 6 of 10.
-/
import Derived.Test.YtefejajofmpjdaaGreatDE
import Derived.Laws.ResultCell
import Derived.Laws.Rows
import Derived.Laws.Tables
section
namespace Go.Proofs.YtefejajofmpjdaaGreat.PWalk
open Go.RowKit Go.Proofs.YtefejajofmpjdaaGreatW.PrintWords Go.Proofs.YtefejajofmpjdaaGreatW.PrintLast Go.Proofs.YtefejajofmpjdaaGreatW.PrintMore
set_option linter.unusedVariables false
set_option linter.unusedSimpArgs false
open Go.Shelf
attribute [local go_sem] Oper.semAt_some
section
structure DfSt {α : Type} (q : α → Bool) (l : List α) (i j : Nat) (dk : List α) : Prop where
 len : dk.length = l.length
 lt : i < j
 le : j ≤ l.length
 low : dk.take i = (l.take j).filter q
 high : dk.drop j = l.drop j
theorem DfSt.start {α : Type} {q : α → Bool} {l : List α} {k : Nat} {x : α} (hx : l[k]? = some x) (hq : q x = false) (hn : ∀ j y, j < k → l[j]? = some y → q y = true) : DfSt q l k (k + 1) l := by
 have hk := (List.getElem?_eq_some_iff.1 hx).1
 refine ⟨rfl, Nat.lt_succ_self _, hk, ?_, rfl⟩
 rw [List.take_add_one, hx, List.filter_append]
 have : (l.take k).filter q = l.take k := by
  rw [List.filter_eq_self]
  intro y hy
  obtain ⟨j, hj⟩ := List.getElem?_of_mem hy
  rw [List.getElem?_take] at hj
  split at hj
  ·
   exact hn j y (by assumption) hj
  ·
   cases hj
 rw [this]
 simp [hq]
theorem DfSt.keep {α : Type} {q : α → Bool} {l : List α} {i j : Nat} {dk : List α} {x : α} (h : DfSt q l i j dk) (hx : l[j]? = some x) (hq : q x = true) : DfSt q l (i + 1) (j + 1) (dk.set i x) := by
 have hj := (List.getElem?_eq_some_iff.1 hx).1
 have h1 := h.lt
 have h2 := h.len
 refine ⟨by rw [List.length_set, h.len], by omega, hj, ?_, ?_⟩
 ·
  rw [List.take_add_one, List.take_set_of_le (Nat.le_refl _), List.getElem?_set_self (by omega), h.low, List.take_add_one, hx, List.filter_append]
  simp [hq]
 ·
  rw [List.drop_set_of_lt (by omega)]
  have := congrArg (List.drop 1) h.high
  rw [List.drop_drop, List.drop_drop] at this
  exact this
theorem DfSt.skip {α : Type} {q : α → Bool} {l : List α} {i j : Nat} {dk : List α} {x : α} (h : DfSt q l i j dk) (hx : l[j]? = some x) (hq : q x = false) : DfSt q l i (j + 1) dk := by
 have hj := (List.getElem?_eq_some_iff.1 hx).1
 have h1 := h.lt
 refine ⟨h.len, by omega, hj, ?_, ?_⟩
 ·
  rw [h.low, List.take_add_one, hx, List.filter_append]
  simp [hq]
 ·
  have := congrArg (List.drop 1) h.high
  rw [List.drop_drop, List.drop_drop] at this
  exact this
theorem DfSt.get {α : Type} {q : α → Bool} {l : List α} {i j : Nat} {dk : List α} (h : DfSt q l i j dk) : dk[j]? = l[j]? := by
 have := congrArg (fun z => z[0]?) h.high
 simpa using this
theorem DfSt.done {α : Type} {q : α → Bool} {l : List α} {i : Nat} {dk : List α} (h : DfSt q l i l.length dk) : dk.take i = l.filter q := by
 rw [h.low, List.take_length]
theorem cellsOf_tk (l : List Node) (i : Nat) : cellsOf (l.take i) = (cellsOf l).take (i * 6) := by
 by_cases h : i ≤ l.length
 ·
  have e : cellsOf l = cellsOf (l.take i) ++ cellsOf (l.drop i) := by rw [← cellsOf_append, List.take_append_drop]
  rw [e, List.take_left' (by rw [cellsOf_length, List.length_take]; omega)]
 ·
  rw [List.take_of_length_le (by omega), List.take_of_length_le (by rw [cellsOf_length]; omega)]
theorem cellsOf_put (l : List Node) (i : Nat) (x : Node) (h : i < l.length) : cellsOf (l.set i x) = (cellsOf l).take (i * 6) ++ zar x ++ (cellsOf l).drop (i * 6 + 6) := by
 have e : cellsOf l = cellsOf (l.take i) ++ (zar l[i] ++ cellsOf (l.drop (i + 1))) := by
  have h1 : cellsOf l = cellsOf (l.take i ++ l.drop i) := by rw [List.take_append_drop]
  rw [h1, cellsOf_append, List.drop_eq_getElem_cons h]
  rfl
 have hl : (cellsOf (l.take i)).length = i * 6 := by rw [cellsOf_length, List.length_take]; omega
 have hl2 : (cellsOf (l.take i) ++ zar l[i]).length = i * 6 + 6 := by rw [List.length_append, hl]; rfl
 rw [List.set_eq_take_append_cons_drop, if_pos h, cellsOf_append, e, List.take_left' hl, ← List.append_assoc (cellsOf (l.take i)) (zar l[i]), List.drop_left' hl2, List.append_assoc]
 rfl
theorem R_row {w : World} {base g n cap : Nat} {l : List Node} (h : Kd.R k42 42 w base (fun _ => True) (.slice (some ⟨g, 0, none⟩) n cap) l) :
  n = l.length ∧ ∃ cur, base ≤ g ∧ w.heap[g]? = some (.cells cur 42 (0, 0)) ∧ n ≤ cap ∧ cap ≤ 9223372036854775807 ∧ cur.size = cap * 6 ∧ cur.toList.take (n * 6) = cellsOf l := by
 have hn : n = l.length := (Kd.R_reads' h).1
 subst hn
 obtain ⟨hl, ho⟩ := cells_of_R h
 rcases ho with ⟨h0, _⟩ | ⟨g', cap', cur, he, hbg, hcur, hle, hmx, hsz, htk⟩
 ·
  cases h0
 ·
  cases he
  exact ⟨rfl, cur, hbg, hcur, hle, hmx, hsz, htk⟩
theorem R_of_row {w : World} {base g n cap : Nat} {l : List Node} {cur : Array Value} (hn : n = l.length) (hb : base ≤ g) (hc : w.heap[g]? = some (.cells cur 42 (0, 0))) (hle : n ≤ cap) (hmx : cap ≤ 9223372036854775807) (hsz : cur.size = cap * 6) (ht : cur.toList.take (n * 6) = cellsOf l) :
  Kd.R k42 42 w base (fun _ => True) (.slice (some ⟨g, 0, none⟩) n cap) l := by
 subst hn
 exact R_of_cells ⟨cellsOf_length _, .inr ⟨g, cap, cur, rfl, hb, hc, hle, hmx, hsz, ht⟩⟩ (fun _ _ => trivial)
theorem take_mid {α : Type} (cur xs : List α) (i m n : Nat) (hi : i + m ≤ n) (hx : xs.length = m) (hn : i ≤ cur.length) : (cur.take i ++ xs ++ cur.drop (i + m)).take n = (cur.take n).take i ++ xs ++ (cur.take n).drop (i + m) := by
 subst hx
 rw [List.take_take, show min i n = i by omega, List.take_append, List.take_of_length_le (l := cur.take i ++ xs) (by rw [List.length_append, List.length_take]; omega), List.length_append, List.length_take, show min i cur.length = i by omega, List.drop_take]
theorem run_storeVar_at {P : Program} (w : World) (g o : Nat) (t ty : TypeId) (cur cells : Array Value) (hg : w.heap[g]? = some (.cells cur t (0, 0))) (hi : (P.info? ty).map (·.size) = some cells.size)
  (ho : o + cells.size ≤ cur.size) (h1 : ∀ v ∈ cells.toList, v.oneCell' = true) :
  (storeVar ty ⟨g, o, none⟩ (.agg cells)).run P w = .ok () (w.setRow g (cur.toList.take o ++ cells.toList ++ cur.toList.drop (o + cells.size)).toArray) := by
 have := run_storeCells_at (P := P) g o t cells.toList 0 cur w hg (by rw [Array.length_toList]; exact ho) h1
 cases hq : P.info? ty with
 | none => simp [hq] at hi
 | some i =>
  have hs : cells.size = i.size := by simp [hq] at hi; omega
  simp only [Nat.add_zero, Array.length_toList] at this
  simp [storeVar, sizeOf, typeInfo, hq, Value.cells, hs, this]
/-- A node is stored into a row. -/
theorem row_put {w : World} {base g n cap i : Nat} {l : List Node} (x : Node) (h : Kd.R k42 42 w base (fun _ => True) (.slice (some ⟨g, 0, none⟩) n cap) l) (hi : i < n) :
  ∃ w', (storeVar 42 ⟨g, i * 6, none⟩ (vNode x)).run Tryz.prog w = .ok () w' ∧ Kd.R k42 42 w' base (fun _ => True) (.slice (some ⟨g, 0, none⟩) n cap) (l.set i x) ∧ w.grownBy w' (some g) := by
 obtain ⟨rfl, cur, hb, hc, hle, hmx, hsz, ht⟩ := R_row h
 have hl := cellsOf_length l
 have hcl : cur.toList.length = cap * 6 := by rw [Array.length_toList]; exact hsz
 obtain ⟨i0, hi0, hz0, hz1, hz2⟩ := info_parts infoN
 have hst := run_storeVar_at (P := Tryz.prog) w g (i * 6) 42 42 cur (zar x).toArray hc (by rw [hi0]; show some i0.size = some 6; rw [hz1]) (by show i * 6 + 6 ≤ _; omega) (by intro v hv; simp [zar] at hv; rcases hv with rfl | rfl | rfl | rfl | rfl | rfl <;> rfl)
 rw [show (zar x).toArray.size = 6 from rfl, List.toList_toArray] at hst
 have h6 : (zar x).length = 6 := rfl
 refine ⟨_, hst, ?_, setRow_grown w g _⟩
 refine R_of_row (by rw [List.length_set]) hb (setRow_at hc _) hle hmx ?_ ?_
 rotate_left
 ·
  rw [cellsOf_put _ _ _ hi, ← ht, List.toList_toArray]
  exact take_mid _ _ _ _ _ (by omega) h6 (by omega)
 ·
  rw [List.size_toArray, List.length_append, List.length_append, List.length_take, List.length_drop, h6]
  omega
/-- The end of a row is cleared. -/
theorem row_clear {w : World} {base g n cap i : Nat} {l : List Node} (h : Kd.R k42 42 w base (fun _ => True) (.slice (some ⟨g, 0, none⟩) n cap) l) (hi : i < n) :
  ∃ w', (Builtin.clear_ #[22] 0 #[.slice (some ⟨g, i * 6, none⟩) (n - i) (cap - i)]).run Tryz.prog w = .ok (.tuple #[]) w' ∧ Kd.R k42 42 w' base (fun _ => True) (.slice (some ⟨g, 0, none⟩) i cap) (l.take i) ∧ w.grownBy w' (some g) := by
 obtain ⟨rfl, cur, hb, hc, hle, hmx, hsz, ht⟩ := R_row h
 have hl := cellsOf_length l
 have hcl : cur.toList.length = cap * 6 := by rw [Array.length_toList]; exact hsz
 have hclr := run_clear_row (P := Tryz.prog) Tryz.underlying22 Tryz.zeroValue42 (by decide) 0 g (i * 6) (l.length - i) (cap - i) cur 42 w hc (by omega) (by rw [hsz]; show i * 6 + (l.length - i) * 6 ≤ cap * 6; omega)
 have hz6 : (Value.agg #[(.int .i64 0), (.int .i64 0), (.int .i64 0), (.int .i64 0), (.int .i64 0), (.int .i32 0)]).cells.size = 6 := rfl
 have hzl : (Builtin.zeroCells (Value.agg #[(.int .i64 0), (.int .i64 0), (.int .i64 0), (.int .i64 0), (.int .i64 0), (.int .i32 0)]).cells (l.length - i)).toList.length = (l.length - i) * 6 := by rw [Array.length_toList, size_zeroCells]; rfl
 rw [hz6] at hclr
 generalize (Builtin.zeroCells (Value.agg #[(.int .i64 0), (.int .i64 0), (.int .i64 0), (.int .i64 0), (.int .i64 0), (.int .i32 0)]).cells (l.length - i)).toList = zs at hclr hzl
 refine ⟨_, hclr, ?_, setRow_grown w g _⟩
 refine R_of_row (by rw [List.length_take]; omega) hb (setRow_at hc _) (by omega) hmx ?_ ?_
 ·
  rw [List.size_toArray, List.length_append, List.length_append, List.length_take, List.length_drop, hzl]
  omega
 ·
  rw [List.toList_toArray, List.append_assoc, List.take_left' (by rw [List.length_take]; omega), cellsOf_tk, ← ht, List.take_take, show min (i * 6) (l.length * 6) = i * 6 by omega]
theorem row_six {W : World} {base g n c k : Nat} {xs : List Node} {x : Node} (h : Kd.R k42 42 W base (fun _ => True) (.slice (some ⟨g, 0, none⟩) n c) xs) (hk : xs[k]? = some x) :
  W.cell? ⟨g, k * 6, none⟩ = some (.int .i64 x.f0.f0) ∧ W.cell? ⟨g, k * 6 + 1, none⟩ = some (.int .i64 x.f0.f1) ∧ W.cell? ⟨g, k * 6 + 2, none⟩ = some (.int .i64 x.f1.f0) ∧ W.cell? ⟨g, k * 6 + 3, none⟩ = some (.int .i64 x.f1.f1) ∧ W.cell? ⟨g, k * 6 + 4, none⟩ = some (.int .i64 x.f2) ∧ W.cell? ⟨g, k * 6 + 5, none⟩ = some (.int .i32 x.f3) := by
 obtain ⟨ad, e, h0, h1, h2, h3, h4, h5⟩ := node_at (Kd.R_reads' h).2.2 (Below.refl _ W) k x hk
 cases e
 rw [show (⟨g, 0, none⟩ : Addr).add (k * 6) = ⟨g, k * 6, none⟩ by rw [add_lit, Nat.zero_add]] at h0 h1 h2 h3 h4 h5
 exact ⟨h0, h1, h2, h3, h4, h5⟩
theorem box_cells {V : World} {g : Nat} {c0 c1 c2 c3 c4 c5 : Value} (h : V.heap[g]? = some (.cells #[c0, c1, c2, c3, c4, c5] 42 (0, 0))) :
  V.cell? ⟨g, 0, none⟩ = some c0 ∧ V.cell? ⟨g, 1, none⟩ = some c1 ∧ V.cell? ⟨g, 2, none⟩ = some c2 ∧ V.cell? ⟨g, 3, none⟩ = some c3 ∧ V.cell? ⟨g, 4, none⟩ = some c4 ∧ V.cell? ⟨g, 5, none⟩ = some c5 :=
 ⟨(za4 h 0).trans rfl, (za4 h 1).trans rfl, (za4 h 2).trans rfl, (za4 h 3).trans rfl, (za4 h 4).trans rfl, (za4 h 5).trans rfl⟩
section
variable {ops : Array Oper} {rest : List Oper} {o : Oper} {a : Act} {Q : Exit → Act → World → Prop}
/-- The operation: a node is stored into a row. -/
theorem wpList_putNode (hgd : o.guard = none) (s x : Operand) (ho : o.op = .store 42 s x) (hd : o.dst = none) {w : World} {base g n cap i : Nat} {l : List Node} (y : Node)
  (h : Kd.R k42 42 w base (fun _ => True) (.slice (some ⟨g, 0, none⟩) n cap) l) (hi : i < n) (hs : a.eval s = .pointer (some ⟨g, i * 6, none⟩)) (hx : a.eval x = vNode y)
  (hk : ∀ w', Kd.R k42 42 w' base (fun _ => True) (.slice (some ⟨g, 0, none⟩) n cap) (l.set i y) → w.grownBy w' (some g) → wpList Tryz.prog ops Q rest a w') : wpList Tryz.prog ops Q (o :: rest) a w := by
 obtain ⟨w', h1, h2, h3⟩ := row_put y h hi
 refine wpList_plain hgd fun K hK => ?_
 unfold Oper.wp execOp
 simp only [ho, hs, hx, Instr.storeAt, Instr.sureAddr, Sem.run_bind, Sem.run_pure, Result.andThen_ok, h1]
 show K (a.put o.dst undef) w'
 rw [hd]
 exact hK _ _ (hk w' h2 h3)
end
theorem own_more {w V : World} {base : Nat} {v : Value} {l : List Node} (h : Kd.R k42 42 w base (fun _ => True) v l) (hb : Below w.heap.size w V) : Kd.R k42 42 V base (fun _ => True) v l := Kd.R_below h hb
theorem grown_more {w W V : World} {g : Nat} (h : w.grownBy W (some g)) (hb : Below W.heap.size W V) : w.grownBy V (some g) :=
 ⟨hb.os.trans h.os, hb.tape.trans h.tape, hb.output.trans h.output, Nat.le_trans h.size hb.size, fun k hk hne => (hb.block k (Nat.lt_of_lt_of_le hk h.size)).trans (h.block k hk hne)⟩
theorem grown_trans {w W V : World} {g : Nat} (h : w.grownBy W (some g)) (k : W.grownBy V (some g)) : w.grownBy V (some g) :=
 ⟨k.os.trans h.os, k.tape.trans h.tape, k.output.trans h.output, Nat.le_trans h.size k.size, fun q hq hne => (k.block q (Nat.lt_of_lt_of_le hq h.size) hne).trans (h.block q hq hne)⟩
theorem grown_self (w : World) (g : Nat) : w.grownBy w (some g) := ⟨rfl, rfl, rfl, Nat.le_refl _, fun _ _ _ => rfl⟩
theorem idxFrom_cases (p : Node → Bool) (l : List Node) : (idxFrom p l = -1 ∧ ∀ x ∈ l, p x = false) ∨ ∃ (k : Nat) (x : Node), l[k]? = some x ∧ idxFrom p l = (k : Int) ∧ p x = true ∧ ∀ j y, j < k → l[j]? = some y → p y = false := by
 unfold idxFrom
 cases h : l.findIdx? p with
 | none =>
  rw [List.findIdx?_eq_none_iff] at h
  exact .inl ⟨rfl, h⟩
 | some k =>
  obtain ⟨hk, h1, h2⟩ := List.findIdx?_eq_some_iff_getElem.1 h
  refine .inr ⟨k, l[k], List.getElem?_eq_getElem hk, rfl, h1, fun j y hj hy => ?_⟩
  obtain ⟨hl, rfl⟩ := List.getElem?_eq_some_iff.1 hy
  simpa using h2 j hj
set_option maxHeartbeats 1000000 in
set_option maxRecDepth 100000 in
theorem DeleteFuncNode.calls (p : Node → Bool) (fn : Nat) (base : Nat) (v : Value) (l : List Node) (w : World) (ho : Kd.R k42 42 w base (fun _ => True) v l) (hl : l.length ≤ 1000000)
  (hcall : ∀ args W, (callFunc fn args).run Tryz.prog W = .ok (.enter fn args) W)
  (hp : ∀ x W, Calls Tryz.prog fn #[vNode x] W fun e W' => e = .returned (.bool (p x)) ∧ Below W.heap.size W W') :
  Calls Tryz.prog 73 #[v, .func (.func fn) #[] #[]] w fun e w' => ∃ v0_ : Value, e = .returned v0_ ∧ Kd.R k42 42 w' base (fun _ => True) v0_ (l.filter fun x => !p x) ∧ w.grownBy w' v.ownBlock := by
 obtain ⟨A, c, rfl, hlc⟩ : ∃ A c, v = .slice A l.length c ∧ l.length ≤ c := by
  obtain ⟨A, c, rfl⟩ := RN.slice ho
  exact ⟨A, c, rfl, (Kd.R_reads' ho).2.1⟩
 have HI := za0.mk (IndexFuncNode.calls p fn #[] A c l w (Kd.R_reads' ho).2.2 hlc hcall (fun x W _ => hp x W))
 have HP := za0.mk hp
 have HO := za0.mk ho
 clear ho hp
 obtain ⟨n, Hn⟩ : ∃ n, za0 (l.length = n) := ⟨_, ⟨rfl⟩⟩
 rw [Hn.out] at HI HO hl hlc ⊢
 have hu := Tryz.underlying42
 rcases idxFrom_cases p l with ⟨hi, hall⟩ | ⟨k, x, hk, hi, hx, hlow⟩
 ·
  have HF := za0.mk (show (l.filter fun x => !p x) = l by rw [List.filter_eq_self]; intro y hy; rw [hall y hy]; rfl)
  rw [hi] at HI
  clear hi hall
  go_enter Tryz.func73, Tryz.ntmps73
  go_wp2_with fail
  refine HI.out.mono ?_
  rintro e W ⟨rfl, hb⟩
  go_wp2
  go_ret
  refine ⟨_, rfl, ?_, ⟨hb.os, hb.tape, hb.output, hb.size, fun q hq _ => hb.block q hq⟩⟩
  rw [HF.out]
  exact own_more HO.out hb
 ·
  have hkn : k < n := by rw [← Hn.out]; exact (List.getElem?_eq_some_iff.1 hk).1
  obtain ⟨g, rfl⟩ : ∃ g, A = some ⟨g, 0, none⟩ := by
   obtain ⟨g, cap, h1, _⟩ := Kd.R_form HO.out (by rw [Hn.out]; omega)
   cases h1
   exact ⟨g, rfl⟩
  have HS := za0.mk (DfSt.start (q := fun x => !p x) hk (by rw [hx]; rfl) (fun j y hj hy => by rw [hlow j y hj hy]; rfl))
  have HK := za0.mk hkn
  rw [hi] at HI
  clear hi hx hlow hk
  have hne : ((k : Int) == -1) = false := beq_eq_false_iff_ne.2 (by omega)
  go_enter Tryz.func73, Tryz.ntmps73
  go_wp2_with fail
  refine HI.out.mono ?_
  rintro e W ⟨rfl, hb⟩
  have HB := za0.mk hb
  clear hb
  go_wp2
  go_loopw [5, 6, 7] (fun i j _ wr => ∃ (a b : Nat) (dk : List Node), i = .int .i64 a ∧ j = .int .i64 b ∧ a < b ∧ b ≤ n ∧ za0 (DfSt (fun x => !p x) l a b dk) ∧ za0 (Kd.R k42 42 wr base (fun _ => True) (.slice (some ⟨g, 0, none⟩) n c) dk) ∧ za0 (w.grownBy wr (some g))) (fun _ j _ _ => n - (intOf j).toNat)
  case atStart => exact ⟨k, k + 1, l, rfl, by go_num, by omega, by have := HK.out; omega, HS, ⟨own_more HO.out HB.out⟩, ⟨grown_more (grown_self w g) HB.out⟩⟩
  case round =>
   obtain ⟨a, b, dk, rfl, rfl, hab, hbn, HD, HRw, HG⟩ := hrel
   by_cases hlt : b < n
   ·
    obtain ⟨y, hy⟩ : ∃ y, za0 (l[b]? = some y) := ⟨_, ⟨List.getElem?_eq_getElem (by rw [Hn.out]; exact hlt)⟩⟩
    obtain ⟨h0, h1, h2, h3, h4, h5⟩ := row_six HRw.out (HD.out.get.trans hy.out)
    cases hpy : p y with
    | true =>
     have HP2 := za0.mk hpy
     clear hpy
     go_wp2
     refine (HP.out y _).mono ?_
     rintro e V ⟨rfl, hb⟩
     rw [HP2.out]
     have HBV := za0.mk (za8 (za2 (Below.refl _ wr) _) hb)
     clear hb
     go_wp2
     go_roundw
     case rel => exact ⟨a, b + 1, dk, rfl, by go_num, by omega, by omega, ⟨HD.out.skip hy.out (by rw [HP2.out]; rfl)⟩, ⟨own_more HRw.out HBV.out⟩, ⟨grown_more HG.out HBV.out⟩⟩
     case measure => simp [intOf]; omega
    | false =>
     have HP2 := za0.mk hpy
     clear hpy
     go_wp2
     refine (HP.out y _).mono ?_
     rintro e V ⟨rfl, hb⟩
     rw [HP2.out]
     have HX := za0.mk (zab (zaj wr _) hb)
     have HBV := za0.mk (za8 (za2 (Below.refl _ wr) _) hb)
     clear hb h0 h1 h2 h3 h4 h5
     obtain ⟨h0, h1, h2, h3, h4, h5⟩ := box_cells HX.out
     have HRV := own_more HRw.out HBV.out
     have HRV := za0.mk HRV
     have han : a < n := by omega
     go_wp2_with (refine wpList_putNode rfl (.tmp 33) (.tmp 32) rfl rfl y HRV.out han rfl rfl ?_; intro V2 hR2 hg2)
     go_roundw
     case rel => exact ⟨a + 1, b + 1, dk.set a y, by go_num, by go_num, by omega, by omega, ⟨HD.out.keep hy.out (by rw [HP2.out]; rfl)⟩, ⟨hR2⟩, ⟨grown_trans (grown_more HG.out HBV.out) hg2⟩⟩
     case measure => simp [intOf]; omega
   ·
    obtain rfl : b = n := by omega
    obtain ⟨V, hrun, hR, hg⟩ := row_clear HRw.out hab
    have HRUN := za0.mk hrun
    have HR3 := za0.mk hR
    have HG3 := za0.mk (grown_trans HG.out hg)
    have hda := HD.out
    rw [← Hn.out] at hda
    have HDA := za0.mk hda.done
    have hca : ¬ c = a := by omega
    have hac : a ≤ c := by omega
    have hab2 : a ≤ b := by omega
    clear hrun hR hg hda
    have hrun := HRUN.out
    go_wp2
    go_ret
    exact ⟨_, rfl, by rw [← HDA.out]; exact HR3.out, HG3.out⟩
def aliveOf (l : List Node) : List Node := l.filter fun x => !decide (x.f3 = 0)
def visOf (l : List Node) : List Node := aliveOf (nds (ordOf l))
def index_visible.f (l0 : List Node) : Option (List Node × Int) := if l0.length ≤ 1000000 then some (if storeOk l0 = true then (visOf l0, 0) else ([], 2)) else none
theorem dead_call (x : Node) (W : World) : Calls Tryz.prog 62 #[vNode x] W fun e W' => e = .returned (.bool (decide (x.f3 = 0))) ∧ Below W.heap.size W W' :=
 node_Dead.calls x.f0.f0 x.f0.f1 x.f1.f0 x.f1.f1 x.f2 x.f3 (decide (x.f3 = 0)) W (by unfold node_Dead.f; by_cases h : x.f3 = 0 <;> simp [h])
theorem dead_enters : ∀ args W, (callFunc 62 args).run Tryz.prog W = .ok (.enter 62 args) W := enters_of Tryz.func62 (by kernel_rfl) rfl
theorem grown_on {w W V : World} {row : Option Nat} (h : W.grownBy V row) (hb : Below w.heap.size w W) (hr : ∀ k, row = some k → w.heap.size ≤ k) : Below w.heap.size w V := hb.grown h hb.size hr
theorem R_base {W : World} {base : Nat} {v : Value} {l : List Node} (h : Kd.R k42 42 W base (fun _ => True) v l) : ∀ k, v.ownBlock = some k → base ≤ k := fun k e => by
 obtain ⟨_, ho⟩ := cells_of_R h
 rcases ho with ⟨rfl, _⟩ | ⟨g, cap, cur, rfl, hb, _⟩
 ·
  cases e
 ·
  cases e; exact hb
set_option maxHeartbeats 400000 in
theorem index_visible.calls (A0 : Option Addr) (c0 : Nat) (ll : List Node) (r0 : List Node) (r1 : Int) (w : World) (hr0 : Kd.C k42 w A0 ll.length ll) (hc0 : ll.length ≤ c0) (h : index_visible.f ll = some (r0, r1)) :
  Calls Tryz.prog 54 #[.slice A0 ll.length c0] w fun e w' => ∃ v0_ : Value, e = .returned (.tuple #[v0_, .int .i64 r1]) ∧ Kd.R k42 42 w' w.heap.size (fun _ => True) v0_ r0 ∧ Below w.heap.size w w' := by
 unfold index_visible.f at h
 by_cases hl : ll.length ≤ 1000000
 rotate_left
 ·
  rw [if_neg hl] at h; cases h
 rw [if_pos hl] at h
 obtain ⟨o, eo, he, ho⟩ : ∃ o eo, walk_Order.f ll = some (o, eo) ∧ (r0 = aliveOf o ∧ r1 = eo ∧ o.length ≤ 1000000) := by
  unfold walk_Order.f
  rw [if_pos hl]
  by_cases hs : storeOk ll = true
  ·
   rw [if_pos hs] at h ⊢
   cases h
   exact ⟨_, _, rfl, rfl, rfl, by have := ord_le (store_of hs); rw [List.length_map]; omega⟩
  ·
   rw [if_neg hs] at h ⊢
   cases h
   exact ⟨_, _, rfl, rfl, rfl, by simp⟩
 obtain ⟨rfl, rfl, hol⟩ := ho
 have HO := za0.mk (walk_Order.calls A0 c0 ll o r1 w hr0 hc0 he)
 have HL := za0.mk hol
 clear h hr0 hc0 he hol hl
 go_enter Tryz.func54, Tryz.ntmps54
 go_wp2_with fail
 refine HO.out.mono ?_
 rintro e W ⟨v, rfl, hR, hb⟩
 have HR := za0.mk hR
 have HB := za0.mk hb
 clear hR hb HO
 go_wp2_with fail
 refine (DeleteFuncNode.calls (fun x => decide (x.f3 = 0)) 62 w.heap.size v o W HR.out HL.out dead_enters dead_call).mono ?_
 rintro e V ⟨v2, rfl, hR2, hg⟩
 have HR2 := za0.mk hR2
 have HB2 := za0.mk (grown_on hg HB.out (R_base HR.out))
 clear hR2 hg
 go_wp2
 go_ret2
 exact ⟨_, rfl, HR2.out, HB2.out⟩
end
section
theorem op_slice {K : Act → World → Prop} {Q : Exit → Act → World → Prop} {P : Program} {o : Oper} {a : Act} {W : World} (t : TypeId) (s : Operand) (lo hi : Option Operand) (ho : o.op = .slice t s lo hi none) {v x : Value} {vl vh : Option Value} (hs : a.eval s = v) (hl : lo.map a.eval = vl) (hh : hi.map a.eval = vh)
  (hrun : (Instr.sliceAt t v vl vh none).run P W = .ok x W) (h : K (a.put o.dst x) W) : o.wp P a W K Q := by
 unfold Oper.wp
 unfold execOp
 simp only [ho, Option.map_none, hs, hl, hh]
 simp [Result.andThen, Sem.run_bind, hrun, go_sem]
 exact h
theorem run_sliced {P : Program} {t e : TypeId} {A : Option Addr} {m c : Nat} {lo hi : Option Value} {x : Value} {W : World} (ht : P.underlying t = some (.slice e)) (h : (Instr.slice t (.slice A m c) lo hi none).run P W = .ok x W) : (Instr.sliceAt t (.slice A m c) lo hi none).run P W = .ok x W := by
 have he : P.elem t = e := by simp [Program.elem, ht]
 rw [run_sliceAt_slice W t _ _ _ _ (by rw [he]; exact ht)]
 exact h
theorem RN.C {W : World} {base m c : Nat} {A : Option Addr} {xs : List Node} (h : RN W base (.slice A m c) xs) : xs.length = m ∧ m ≤ c ∧ Kd.C k42 W A m xs := by
 obtain ⟨A', c', e, hc, hC⟩ := Kd.R_reads h
 cases e
 exact ⟨rfl, hc, hC⟩
theorem RD.C {W : World} {base m c : Nat} {A : Option Addr} {xs : List Dot} (h : RD W base (.slice A m c) xs) : xs.length = m ∧ m ≤ c ∧ Kd.C k39 W A m xs := by
 obtain ⟨A', c', e, hc, hC⟩ := Kd.R_reads h
 cases e
 exact ⟨rfl, hc, hC⟩
theorem C_from {α : Type} {d : Kd α} {W : World} {A : Option Addr} {m k c : Nat} {xs : List α} (h : d.C W A m xs) (hm : xs.length = m) (hk : k ≤ m) (hc : m ≤ c) : d.C W (if c = k then A else A.map (·.add (k * d.sz))) (m - k) (xs.drop k) := by
 subst hm
 have := Kd.C_drop h hk hc
 rwa [List.length_drop] at this
theorem grown_below {W0 V V' : World} {v : Value} {xs : List Node} (hb : Below W0.heap.size W0 V) (hr : RN V W0.heap.size v xs) (hg : V.grownBy V' v.ownBlock) : Below W0.heap.size W0 V' :=
 hb.grown hg hb.size (fun k e => by
  obtain ⟨_, inner, ho, _⟩ := hr
  rcases ho.2 with ⟨rfl, _⟩ | ⟨g, c, cur, rfl, h1, _⟩
  ·
   cases e
  ·
   cases e; exact h1)
end
end Go.Proofs.YtefejajofmpjdaaGreat.PWalk
end
section
namespace Go.Proofs.YtefejajofmpjdaaGreat.PWalk
open Go.RowKit Go.Proofs.YtefejajofmpjdaaGreatW.PrintWords Go.Proofs.YtefejajofmpjdaaGreatW.PrintLast Go.Proofs.YtefejajofmpjdaaGreatW.PrintMore
set_option linter.unusedVariables false
set_option linter.unusedSimpArgs false
section
def node_Kill.f (a0_0 : Int) (a0_1 : Int) (a0_2 : Int) (a0_3 : Int) (a0_4 : Int) (a0_5 : Int) : Option (Int × Int × Int × Int × Int × Int) := some (a0_0, a0_1, a0_2, a0_3, a0_4, 0)
set_option maxHeartbeats 8000000 in
set_option maxRecDepth 100000 in
theorem node_Kill.calls (a0_0 : Int) (a0_1 : Int) (a0_2 : Int) (a0_3 : Int) (a0_4 : Int) (a0_5 : Int) (r1 : Int) (r2 : Int) (r3 : Int) (r4 : Int) (r5 : Int) (r6 : Int) (w : World) (h : node_Kill.f a0_0 a0_1 a0_2 a0_3 a0_4 a0_5 = some (r1, r2, r3, r4, r5, r6)) :
  Calls Tryz.prog 61 #[.agg #[.int .i64 a0_0, .int .i64 a0_1, .int .i64 a0_2, .int .i64 a0_3, .int .i64 a0_4, .int .i32 a0_5]] w fun e w' => e = .returned (.agg #[.int .i64 r1, .int .i64 r2, .int .i64 r3, .int .i64 r4, .int .i64 r5, .int .i32 r6]) ∧ Below w.heap.size w w' := by
 have hu42 := Tryz.underlying42
 have HB := za0.mk (Below.refl w.heap.size w)
 have H : (some (a0_0, a0_1, a0_2, a0_3, a0_4, 0)) = some (r1, r2, r3, r4, r5, r6) := h
 clear h
 simp only [Option.some.injEq, Prod.mk.injEq] at H
 obtain ⟨rfl, rfl, rfl, rfl, rfl, rfl⟩ := H
 go_enter Tryz.func61, Tryz.ntmps61
 go_wp2_with (first | ((with_reducible refine zaq (N := 1) rfl ?_); refine zan ?hg (N := 1) ?hd (cs := #[.int .i64 a0_0, .int .i64 a0_1, .int .i64 a0_2, .int .i64 a0_3, .int .i64 a0_4, .int .i32 a0_5]) (t := 42) ?hr ?_; (case hd => rfl); (case hg => rfl); (case hr => first | (go_simp; done) | (go_simp; rfl)); intro gb127 hg w2 hbox hb; have n0_ := za0.mk (zad (by repeat (first | (with_reducible first | exact HB.out | apply za2 | apply za1 | apply za3) | exact HB.out)) hb); have n1_ := za0.mk (hbox); have n2_ := za0.mk ((by rw [hg]; exact (zac (by repeat (first | (with_reducible first | exact HB.out | apply za2 | apply za1 | apply za3) | exact HB.out))) : w.heap.size ≤ gb127)); have n3_ := za0.mk ((by rw [hg]; exact (zac (by repeat (first | (with_reducible first | exact HB.out | apply za2 | apply za1 | apply za3) | exact HB.out))) : w.heap.size ≤ gb127)); clear HB; have HB := n0_; have BK127 := n1_; have GW127 := n2_; have GE127 := n3_; clear n0_ n1_ n2_ n3_; clear hb hbox hg) | ((with_reducible refine zaq (N := 2) rfl ?_); refine zan ?hg (N := 2) ?hd (cs := #[.int .i64 0, .int .i64 0, .int .i64 0, .int .i64 0, .int .i64 0, .int .i32 0]) (t := 42) ?hr ?_; (case hd => rfl); (case hg => rfl); (case hr => first | (go_simp; done) | (go_simp; rfl)); intro gb128 hg w3 hbox hb; have n0_ := za0.mk (zak (g := gb127) (o := .cells #[.int .i64 a0_0, .int .i64 a0_1, .int .i64 a0_2, .int .i64 a0_3, .int .i64 a0_4, .int .i32 a0_5] 42 (0, 0)) (by (with_reducible repeat (first | refine za7 ?_ _ | refine zaa ?_ | refine za6 ?_ _)); exact BK127.out) hb); have n1_ := za0.mk (zad (by repeat (first | (with_reducible first | exact HB.out | apply za2 | apply za1 | apply za3 | refine za5 ?_ GE127.out) | exact HB.out)) hb); have n2_ := za0.mk (hbox); have n3_ := za0.mk ((by rw [hg]; exact (zac (by repeat (first | (with_reducible first | exact HB.out | apply za2 | apply za1 | apply za3 | refine za5 ?_ GE127.out) | exact HB.out))) : w.heap.size ≤ gb128)); have n4_ := za0.mk ((by rw [hg]; exact (zac (by repeat (first | (with_reducible first | exact HB.out | apply za2 | apply za1 | apply za3 | refine za5 ?_ GE127.out) | exact HB.out))) : w.heap.size ≤ gb128)); have n5_ := za0.mk ((by rw [hg]; exact Nat.ne_of_lt (zae (g := gb127) (o := .cells #[.int .i64 a0_0, .int .i64 a0_1, .int .i64 a0_2, .int .i64 a0_3, .int .i64 a0_4, .int .i32 a0_5] 42 (0, 0)) (by (with_reducible repeat (first | refine za7 ?_ _ | refine zaa ?_ | refine za6 ?_ _)); exact BK127.out)) : gb127 ≠ gb128)); have n6_ := za0.mk ((by rw [hg]; exact Nat.ne_of_gt (zae (g := gb127) (o := .cells #[.int .i64 a0_0, .int .i64 a0_1, .int .i64 a0_2, .int .i64 a0_3, .int .i64 a0_4, .int .i32 a0_5] 42 (0, 0)) (by (with_reducible repeat (first | refine za7 ?_ _ | refine zaa ?_ | refine za6 ?_ _)); exact BK127.out)) : gb128 ≠ gb127)); clear BK127; clear HB; have BK127 := n0_; have HB := n1_; have BK128 := n2_; have GW128 := n3_; have GE128 := n4_; have NB127_128 := n5_; have NB128_127 := n6_; clear n0_ n1_ n2_ n3_ n4_ n5_ n6_; clear hb hbox hg; have hnb4 := NB127_128.out; have hnc4 := NB128_127.out; have hcz5_0 : w3.cell? ⟨gb127, 0, none⟩ = some (.int .i64 a0_0) := (za4 BK127.out 0).trans rfl; have hcz5_1 : w3.cell? ⟨gb127, 1, none⟩ = some (.int .i64 a0_1) := (za4 BK127.out 1).trans rfl; have hcz5_2 : w3.cell? ⟨gb127, 2, none⟩ = some (.int .i64 a0_2) := (za4 BK127.out 2).trans rfl; have hcz5_3 : w3.cell? ⟨gb127, 3, none⟩ = some (.int .i64 a0_3) := (za4 BK127.out 3).trans rfl; have hcz5_4 : w3.cell? ⟨gb127, 4, none⟩ = some (.int .i64 a0_4) := (za4 BK127.out 4).trans rfl; have hcz5_5 : w3.cell? ⟨gb127, 5, none⟩ = some (.int .i32 a0_5) := (za4 BK127.out 5).trans rfl; have hfz5_0 := za9 BK127.out 0; have hfz5_1 := za9 BK127.out 1; have hfz5_2 := za9 BK127.out 2; have hfz5_3 := za9 BK127.out 3; have hfz5_4 := za9 BK127.out 4; have hfz5_5 := za9 BK127.out 5; have hcz6_0 : w3.cell? ⟨gb128, 0, none⟩ = some (.int .i64 0) := (za4 BK128.out 0).trans rfl; have hcz6_1 : w3.cell? ⟨gb128, 1, none⟩ = some (.int .i64 0) := (za4 BK128.out 1).trans rfl; have hcz6_2 : w3.cell? ⟨gb128, 2, none⟩ = some (.int .i64 0) := (za4 BK128.out 2).trans rfl; have hcz6_3 : w3.cell? ⟨gb128, 3, none⟩ = some (.int .i64 0) := (za4 BK128.out 3).trans rfl; have hcz6_4 : w3.cell? ⟨gb128, 4, none⟩ = some (.int .i64 0) := (za4 BK128.out 4).trans rfl; have hcz6_5 : w3.cell? ⟨gb128, 5, none⟩ = some (.int .i32 0) := (za4 BK128.out 5).trans rfl; have hfz6_0 := za9 BK128.out 0; have hfz6_1 := za9 BK128.out 1; have hfz6_2 := za9 BK128.out 2; have hfz6_3 := za9 BK128.out 3; have hfz6_4 := za9 BK128.out 4; have hfz6_5 := za9 BK128.out 5))
 refine bodyPost_ret (results_cell_row rfl _ _ gb128 42 #[.int .i64 a0_0, .int .i64 a0_1, .int .i64 a0_2, .int .i64 a0_3, .int .i64 a0_4, .int .i32 0] (0, 0) _ rfl (by (with_reducible repeat (first | refine za7 ?_ _ | refine zaa ?_ | refine za6 ?_ _)); refine blk_put (cs := #[.int .i64 a0_0, .int .i64 a0_1, .int .i64 a0_2, .int .i64 a0_3, .int .i64 a0_4, .int .i32 0]) ?_ 5 _ rfl; (with_reducible repeat (first | refine za7 ?_ _ | refine zaa ?_ | refine za6 ?_ _)); refine blk_put (cs := #[.int .i64 a0_0, .int .i64 a0_1, .int .i64 a0_2, .int .i64 a0_3, .int .i64 0, .int .i32 0]) ?_ 4 _ rfl; (with_reducible repeat (first | refine za7 ?_ _ | refine zaa ?_ | refine za6 ?_ _)); refine blk_put (cs := #[.int .i64 a0_0, .int .i64 a0_1, .int .i64 a0_2, .int .i64 0, .int .i64 0, .int .i32 0]) ?_ 3 _ rfl; (with_reducible repeat (first | refine za7 ?_ _ | refine zaa ?_ | refine za6 ?_ _)); refine blk_put (cs := #[.int .i64 a0_0, .int .i64 a0_1, .int .i64 0, .int .i64 0, .int .i64 0, .int .i32 0]) ?_ 2 _ rfl; (with_reducible repeat (first | refine za7 ?_ _ | refine zaa ?_ | refine za6 ?_ _)); refine blk_put (cs := #[.int .i64 a0_0, .int .i64 0, .int .i64 0, .int .i64 0, .int .i64 0, .int .i32 0]) ?_ 1 _ rfl; (with_reducible repeat (first | refine za7 ?_ _ | refine zaa ?_ | refine za6 ?_ _)); refine blk_put (cs := #[.int .i64 0, .int .i64 0, .int .i64 0, .int .i64 0, .int .i64 0, .int .i32 0]) ?_ 0 _ rfl; (with_reducible repeat (first | refine za7 ?_ _ | refine zaa ?_ | refine za6 ?_ _)); refine blk_far ?_ NB128_127.out _; (with_reducible repeat (first | refine za7 ?_ _ | refine zaa ?_ | refine za6 ?_ _)); exact BK128.out) Tryz.underlying42 rfl (by kernel_rfl)) rfl ?_
 exact ⟨by first | rfl | (simp [zai, zah] <;> rfl) | (simp [*, zai, zah] <;> rfl), by repeat (first | (with_reducible first | exact HB.out | apply za2 | apply za1 | apply za3 | refine za5 ?_ GE127.out | refine za5 ?_ GE128.out) | exact HB.out)⟩
end
section
theorem eqA42 (d : Nat) (w : World) (x0 y0 : Int) (x1 y1 : Int) (x2 y2 : Int) (x3 y3 : Int) (x4 y4 : Int) (x5 y5 : Int) :
  (Op.equalIn (d + 3) 42 (.agg #[.int .i64 x0, .int .i64 x1, .int .i64 x2, .int .i64 x3, .int .i64 x4, .int .i32 x5]) (.agg #[.int .i64 y0, .int .i64 y1, .int .i64 y2, .int .i64 y3, .int .i64 y4, .int .i32 y5])).run Tryz.prog w = .ok ((x0 == y0 && (x1 == y1)) && ((x2 == y2 && (x3 == y3)) && (x4 == y4 && (x5 == y5)))) w := by
 refine eqA_of Tryz.underlying42 (by kernel_rfl) ?_
 refine eqf_cons (by rfl) (by go_simp) (by go_simp) (eqA39 (d + 0) w _ _ _ _) ?_
 refine eqf_cons (by rfl) (by go_simp) (by go_simp) (eqA39 (d + 0) w _ _ _ _) ?_
 refine eqf_cons (by rfl) (by go_simp; rfl) (by go_simp; rfl) (by go_simp) ?_
 exact eqf_last (by rfl) (by go_simp; rfl) (by go_simp; rfl) (by go_simp)
end
end Go.Proofs.YtefejajofmpjdaaGreat.PWalk
end
section
namespace Go.Proofs.YtefejajofmpjdaaGreat.PWalk
open Go.RowKit Go.Proofs.YtefejajofmpjdaaGreatW.PrintWords Go.Proofs.YtefejajofmpjdaaGreatW.PrintLast Go.Proofs.YtefejajofmpjdaaGreatW.PrintMore
set_option linter.unusedVariables false
set_option linter.unusedSimpArgs false
open Go.Shelf
attribute [local go_sem] Oper.semAt_some
section
def deadN (x : Node) : Node := ⟨x.f0, x.f1, x.f2, 0⟩
theorem box_six {V : World} {g : Nat} {c0 c1 c2 c3 c4 c5 : Value} (h : V.heap[g]? = some (.cells #[c0, c1, c2, c3, c4, c5] 42 (0, 0))) :
  V.cell? ⟨g, 0, none⟩ = some c0 ∧ V.cell? ⟨g, 1, none⟩ = some c1 ∧ V.cell? ⟨g, 2, none⟩ = some c2 ∧ V.cell? ⟨g, 3, none⟩ = some c3 ∧ V.cell? ⟨g, 4, none⟩ = some c4 ∧ V.cell? ⟨g, 5, none⟩ = some c5 :=
 ⟨(za4 h 0).trans rfl, (za4 h 1).trans rfl, (za4 h 2).trans rfl, (za4 h 3).trans rfl, (za4 h 4).trans rfl, (za4 h 5).trans rfl⟩
theorem results_box {fn : Func} {p u : Tmp} (h : fn.results = #[.cell p 42, .tmp u]) (tmps : Array Value) (w : World) (g : Nat) (c0 c1 c2 c3 c4 c5 : Value)
  (hp : tmps.getD p undef = .pointer (some ⟨g, 0, none⟩)) (hg : w.heap[g]? = some (.cells #[c0, c1, c2, c3, c4, c5] 42 (0, 0))) :
  (results fn tmps).run Tryz.prog w = .ok (.tuple #[.agg #[c0, c1, c2, c3, c4, c5], tmps.getD u undef]) w := by
 rw [Go.results_cell_tmp h, hp]
 have h2 := run_loadVar_row (P := Tryz.prog) w g 42 42 #[c0, c1, c2, c3, c4, c5] (0, 0) _ hg Tryz.underlying42 rfl (by kernel_rfl)
 simp [asAddr, h2]
section
variable {ops : Array Oper} {rest : List Oper} {o : Oper} {a : Act} {Q : Exit → Act → World → Prop}
/-- The operation: a node is stored into a box. -/
theorem wpList_boxNode (hgd : o.guard = none) (s x : Operand) (ho : o.op = .store 42 s x) (hd : o.dst = none) {w : World} {g : Nat} {c0 c1 c2 c3 c4 c5 : Value}
  (hg : w.heap[g]? = some (.cells #[c0, c1, c2, c3, c4, c5] 42 (0, 0))) (y : Node) (hs : a.eval s = .pointer (some ⟨g, 0, none⟩)) (hx : a.eval x = vNode y)
  (hk : ∀ w', w'.heap[g]? = some (.cells #[.int .i64 y.f0.f0, .int .i64 y.f0.f1, .int .i64 y.f1.f0, .int .i64 y.f1.f1, .int .i64 y.f2, .int .i32 y.f3] 42 (0, 0)) → w.grownBy w' (some g) → wpList Tryz.prog ops Q rest a w') : wpList Tryz.prog ops Q (o :: rest) a w := by
 obtain ⟨i0, hi0, hz0, hz1, hz2⟩ := info_parts infoN
 refine wpList_store_row hgd 42 s x ho g _ hs hx 42 _ hg (by rw [hi0]; show some i0.size = some 6; rw [hz1]) rfl (Array.all_eq_true_iff_forall_mem.2 (by intro v hv; simp at hv; rcases hv with rfl | rfl | rfl | rfl | rfl | rfl <;> rfl)) ?_
 rw [hd]
 exact hk _ (setRow_at hg _) (setRow_grown w g _)
end
def nodeZ : Node := ⟨⟨0, 0⟩, ⟨0, 0⟩, 0, 0⟩
/-- What two nodes with one dot are together. -/
def mergeN (x y : Node) : Option Node := if x.f1 = y.f1 ∧ x.f2 = y.f2 ∧ (x.f3 = y.f3 ∨ x.f3 = 0 ∨ y.f3 = 0) then some (if y.f3 = 0 then y else x) else none
def mergeV (x y : Node) : Value := match mergeN x y with | some z => .tuple #[vNode z, .int .i64 0] | none => .tuple #[vNode nodeZ, .int .i64 15]
theorem ne_node (x y : Node) : (!(x.f0.f0 == y.f0.f0) || !(x.f0.f1 == y.f0.f1) || (!(x.f1.f0 == y.f1.f0) || !(x.f1.f1 == y.f1.f1) || (!(x.f2 == y.f2) || !(x.f3 == y.f3)))) = decide (x ≠ y) := by
 rw [Bool.eq_iff_iff]
 simp only [Bool.or_eq_true, Bool.not_eq_true', beq_eq_false_iff_ne, decide_eq_true_eq]
 simp only [ne_eq, Node.ext_iff', Dot.ext_iff']
 by_cases a : x.f0.f0 = y.f0.f0 <;> by_cases b : x.f0.f1 = y.f0.f1 <;> by_cases c : x.f1.f0 = y.f1.f0 <;> by_cases d : x.f1.f1 = y.f1.f1 <;> simp [a, b, c, d] <;> omega
theorem merge_cond {x y : Node} {p q da db : Bool} (hd : x.f0 = y.f0) (hp : decide (deadN x ≠ deadN y) = p) (hq : decide (x ≠ y) = q) (ha : (x.f3 == 0) = da) (hb : (y.f3 == 0) = db) :
  ((p || ((q && !da) && !db)) = true → mergeN x y = none) ∧ ((p || ((q && !da) && !db)) = false → mergeN x y = some (if y.f3 = 0 then y else x)) := by
 have e1 : deadN x = deadN y ↔ x.f1 = y.f1 ∧ x.f2 = y.f2 := ⟨fun h => by have := Node.ext_iff'.1 h; exact ⟨this.2.1, this.2.2.1⟩, fun h => Node.ext_iff'.2 ⟨hd, h.1, h.2, rfl⟩⟩
 have e2 : x = y ↔ x.f1 = y.f1 ∧ x.f2 = y.f2 ∧ x.f3 = y.f3 := ⟨fun h => by rw [h]; exact ⟨rfl, rfl, rfl⟩, fun h => Node.ext_iff'.2 ⟨hd, h.1, h.2.1, h.2.2⟩⟩
 subst hp hq ha hb
 unfold mergeN
 simp only [ne_eq, e1, e2, Bool.or_eq_true, Bool.and_eq_true, Bool.not_eq_true', Bool.or_eq_false_iff, decide_eq_true_eq, decide_eq_false_iff_not, beq_eq_false_iff_ne]
 by_cases h1 : x.f1 = y.f1 <;> by_cases h2 : x.f2 = y.f2 <;> by_cases h3 : x.f3 = y.f3 <;> by_cases h4 : x.f3 = 0 <;> by_cases h5 : y.f3 = 0 <;> simp_all
abbrev boxZ : Obj := .cells #[.int .i64 0, .int .i64 0, .int .i64 0, .int .i64 0, .int .i64 0, .int .i32 0] 42 (0, 0)
def mergeInv (W0 : World) (gA gB : Nat) (x y : Node) (p q da db : Bool) (z0 z1 z4 z5 z6 z7 z8 z9 z10 z11 z12 z13 z14 z15 z16 z17 z18 z19 z20 z21 z22 z23 z24 z25 z26 z27 z28 z29 z30 z31 z32 z33 z34 z35 z36 z37 z38 z39 z40 z41 z42 : Value) (L : Array Bool) (ac : Act) (V : World) : Prop := ∃ (l0 l1 l2 l3 l4 l5 l6 l7 l8 l9 l10 l11 l12 l13 l14 l15 l16 l17 l18 l19 l20 : Bool), L = #[l0, l1, l2, l3, l4, l5, l6, l7, l8, l9, l10, l11, l12, l13, l14, l15, l16, l17, l18, l19, l20] ∧ ac = { tmps := #[z0, z1, .pointer (some ⟨gA, 0, none⟩), .pointer (some ⟨gB, 0, none⟩), z4, z5, z6, z7, z8, z9, z10, z11, z12, z13, z14, z15, selv l20 (.bool (p || ((q && !da) && !db))) (z16), selv l0 (vNode x) (z17), selv l1 (vNode (deadN x)) (z18), selv l2 (vNode y) (z19), selv l3 (vNode (deadN y)) (z20), selv l4 (.bool p) (z21), selv l5 (.bool p) (z22), selv l6 (selv p (z23) (vNode x)) (z23), selv l7 (selv p (z24) (vNode y)) (z24), selv l8 (selv p (z25) (.bool q)) (z25), selv l9 (selv p (z26) (.bool q)) (z26), selv l10 (selv p (z27) (selv q (vNode x) (z27))) (z27), selv l11 (selv p (z28) (selv q (.bool da) (z28))) (z28), selv l12 (selv p (z29) (selv q (.bool (!da)) (z29))) (z29), selv l13 (selv p (z30) (.bool (q && !da))) (z30), selv l14 (selv p (z31) (.bool (q && !da))) (z31), selv l15 (selv p (z32) (selv q (selv da (z32) (vNode y)) (z32))) (z32), selv l16 (selv p (z33) (selv q (selv da (z33) (.bool db)) (z33))) (z33), selv l17 (selv p (z34) (selv q (selv da (z34) (.bool (!db))) (z34))) (z34), selv l18 (selv p (z35) (.bool ((q && !da) && !db))) (z35), selv l19 (.bool (p || ((q && !da) && !db))) (z36), z37, z38, z39, z40, z41, z42], defers := [] } ∧ za0 (Below W0.heap.size W0 V)
attribute [local go_sem high] eqA42
set_option maxHeartbeats 4000000 in
set_option maxRecDepth 100000 in
theorem merge_call (x y : Node) (w : World) (hx : nodeOk x = true) (hy : nodeOk y = true) (hd : x.f0 = y.f0) :
  Calls Tryz.prog 46 #[vNode x, vNode y] w fun e w' => e = .returned (mergeV x y) ∧ Below w.heap.size w w' := by
 have HXV := za0.mk (fun W => node_Valid.calls 1 x.f0.f0 x.f0.f1 x.f1.f0 x.f1.f1 x.f2 x.f3 true W (by rw [nodeValid_is, hx]))
 have HYV := za0.mk (fun W => node_Valid.calls 1 y.f0.f0 y.f0.f1 y.f1.f0 y.f1.f1 y.f2 y.f3 true W (by rw [nodeValid_is, hy]))
 have HD := za0.mk hd
 have HB := za0.mk (za2 (za2 (za2 (Below.refl _ w) (boxN x)) (boxN y)) boxZ)
 have HXA := za0.mk (zab (zaj w (boxN x)) ((Gr.alloc (w.alloc (boxN x)) (boxN y)).trans (Gr.alloc _ boxZ)).below)
 have hxb := zab (zaj (w.alloc (boxN x)) (boxN y)) (Gr.alloc ((w.alloc (boxN x)).alloc (boxN y)) boxZ).below
 have hxz := zaj ((w.alloc (boxN x)).alloc (boxN y)) boxZ
 rw [show (w.alloc (boxN x)).heap.size = w.heap.size + 1 by simp] at hxb
 rw [show ((w.alloc (boxN x)).alloc (boxN y)).heap.size = w.heap.size + 2 by simp] at hxz
 have HXB := za0.mk hxb
 have HXZ := za0.mk hxz
 obtain ⟨x0, x1, x2, x3, x4, x5⟩ := box_six HXA.out
 clear hx hy hd hxb hxz
 go_enter Tryz.func46, Tryz.ntmps46
 go_wp2_with fail
 clear x0 x1 x2 x3 x4 x5
 refine (HXV.out _).mono ?_
 rintro e V1 ⟨rfl, hb⟩
 have HXA := za0.mk (zab HXA.out hb)
 have HXB := za0.mk (zab HXB.out hb)
 have HXZ := za0.mk (zab HXZ.out hb)
 have HB := za0.mk (za8 HB.out hb)
 clear hb
 obtain ⟨x0, x1, x2, x3, x4, x5⟩ := box_six HXB.out
 go_wp2_with fail
 clear x0 x1 x2 x3 x4 x5
 refine (HYV.out _).mono ?_
 rintro e V2 ⟨rfl, hb⟩
 have HXA := za0.mk (zab HXA.out hb)
 have HXB := za0.mk (zab HXB.out hb)
 have HXZ := za0.mk (zab HXZ.out hb)
 have HB := za0.mk (za8 HB.out hb)
 clear hb HXV HYV
 go_wp2_with fail
 obtain ⟨p, HPD⟩ : ∃ b, za0 (decide (deadN x ≠ deadN y) = b) := ⟨_, ⟨rfl⟩⟩
 obtain ⟨q, HQD⟩ : ∃ b, za0 (decide (x ≠ y) = b) := ⟨_, ⟨rfl⟩⟩
 obtain ⟨da, HDA⟩ : ∃ b, za0 ((x.f3 == 0) = b) := ⟨_, ⟨rfl⟩⟩
 obtain ⟨db, HDB⟩ : ∃ b, za0 ((y.f3 == 0) = b) := ⟨_, ⟨rfl⟩⟩
 have HP := za0.mk ((ne_node (deadN x) (deadN y)).trans HPD.out)
 have HQ := za0.mk ((ne_node x y).trans HQD.out)
 have HMN := za0.mk (merge_cond HD.out HPD.out HQD.out HDA.out HDB.out)
 refine AnyOrder.wp_region (by kernel_rfl) (mergeInv V2.drew w.heap.size (w.heap.size + 1) x y p q da db _ _ _ _ _ _ _ _ _ _ _ _ _ _ _ _ _ _ _ _ _ _ _ _ _ _ _ _ _ _ _ _ _ _ _ _ _ _ _ _ _) ⟨false, false, false, false, false, false, false, false, false, false, false, false, false, false, false, false, false, false, false, false, false, rfl, rfl, ⟨Below.refl _ _⟩⟩ ?step ?last
 case step =>
  rintro L ac V i ⟨l0, l1, l2, l3, l4, l5, l6, l7, l8, l9, l10, l11, l12, l13, l14, l15, l16, l17, l18, l19, l20, rfl, rfl, HF⟩ hi K hK
  rcases AnyOrder.up hi [0, 1, 2, 3, 4, 5, 20, 6, 7, 8, 9, 14, 10, 11, 12, 13, 15, 16, 17, 18, 19] rfl with rfl | rfl | rfl | rfl | rfl | rfl | rfl | rfl | rfl | rfl | rfl | rfl | rfl | rfl | rfl | rfl | rfl | rfl | rfl | rfl | rfl
  all_goals
   replace hi := AnyOrder.first hi rfl
   repeat (obtain ⟨ha, hi⟩ := hi; first | obtain rfl := ha | clear ha)
   clear hi
   try simp only [sel_true, selv_true] at hK ⊢
  ·
   have hx := zab (zaa HXA.out) HF.out
   obtain ⟨x0, x1, x2, x3, x4, x5⟩ := box_six hx
   refine AnyOrder.wpOp_go rfl (by rfl) ?_
   go_wp2_with fail
   exact ⟨_, _, _, _, _, _, _, _, _, _, _, _, _, _, _, _, _, _, _, _, _, rfl, rfl, HF⟩
  ·
   refine AnyOrder.wpOp_go rfl (by rfl) ?_
   go_wp2_with fail
   refine (node_Kill.calls x.f0.f0 x.f0.f1 x.f1.f0 x.f1.f1 x.f2 x.f3 _ _ _ _ _ _ V rfl).mono ?_
   rintro e V' ⟨rfl, hb⟩
   exact hK _ _ ⟨_, _, _, _, _, _, _, _, _, _, _, _, _, _, _, _, _, _, _, _, _, rfl, rfl, ⟨za8 HF.out hb⟩⟩
  ·
   have hx := zab (zaa HXB.out) HF.out
   obtain ⟨x0, x1, x2, x3, x4, x5⟩ := box_six hx
   refine AnyOrder.wpOp_go rfl (by rfl) ?_
   go_wp2_with fail
   exact ⟨_, _, _, _, _, _, _, _, _, _, _, _, _, _, _, _, _, _, _, _, _, rfl, rfl, HF⟩
  ·
   refine AnyOrder.wpOp_go rfl (by rfl) ?_
   go_wp2_with fail
   refine (node_Kill.calls y.f0.f0 y.f0.f1 y.f1.f0 y.f1.f1 y.f2 y.f3 _ _ _ _ _ _ V rfl).mono ?_
   rintro e V' ⟨rfl, hb⟩
   exact hK _ _ ⟨_, _, _, _, _, _, _, _, _, _, _, _, _, _, _, _, _, _, _, _, _, rfl, rfl, ⟨za8 HF.out hb⟩⟩
  ·
   refine AnyOrder.wpOp_go rfl (by rfl) ?_
   go_wp2_with fail
   rw [HP.out]
   exact ⟨_, _, _, _, _, _, _, _, _, _, _, _, _, _, _, _, _, _, _, _, _, rfl, rfl, HF⟩
  iterate 2
   ·
    refine AnyOrder.wpOp_go rfl (by rfl) ?_
    go_wp2_with fail
    exact ⟨_, _, _, _, _, _, _, _, _, _, _, _, _, _, _, _, _, _, _, _, _, rfl, rfl, HF⟩
  ·
   cases p
   ·
    have hx := zab (zaa HXA.out) HF.out
    obtain ⟨x0, x1, x2, x3, x4, x5⟩ := box_six hx
    refine AnyOrder.wpOp_go rfl (by rfl) ?_
    go_wp2_with fail
    exact ⟨_, _, _, _, _, _, _, _, _, _, _, _, _, _, _, _, _, _, _, _, _, rfl, rfl, HF⟩
   ·
    refine AnyOrder.wpOp_out rfl (by rfl) ?_
    exact hK _ _ ⟨_, _, _, _, _, _, _, _, _, _, _, _, _, _, _, _, _, _, _, _, _, rfl, rfl, HF⟩
  ·
   cases p
   ·
    have hx := zab (zaa HXB.out) HF.out
    obtain ⟨x0, x1, x2, x3, x4, x5⟩ := box_six hx
    refine AnyOrder.wpOp_go rfl (by rfl) ?_
    go_wp2_with fail
    exact ⟨_, _, _, _, _, _, _, _, _, _, _, _, _, _, _, _, _, _, _, _, _, rfl, rfl, HF⟩
   ·
    refine AnyOrder.wpOp_out rfl (by rfl) ?_
    exact hK _ _ ⟨_, _, _, _, _, _, _, _, _, _, _, _, _, _, _, _, _, _, _, _, _, rfl, rfl, HF⟩
  ·
   cases p
   ·
    refine AnyOrder.wpOp_go rfl (by rfl) ?_
    go_wp2_with fail
    rw [HQ.out]
    exact ⟨_, _, _, _, _, _, _, _, _, _, _, _, _, _, _, _, _, _, _, _, _, rfl, rfl, HF⟩
   ·
    refine AnyOrder.wpOp_out rfl (by rfl) ?_
    exact hK _ _ ⟨_, _, _, _, _, _, _, _, _, _, _, _, _, _, _, _, _, _, _, _, _, rfl, rfl, HF⟩
  iterate 2
   ·
    cases p
    ·
     refine AnyOrder.wpOp_go rfl (by rfl) ?_
     go_wp2_with fail
     exact ⟨_, _, _, _, _, _, _, _, _, _, _, _, _, _, _, _, _, _, _, _, _, rfl, rfl, HF⟩
    ·
     refine AnyOrder.wpOp_out rfl (by rfl) ?_
     exact hK _ _ ⟨_, _, _, _, _, _, _, _, _, _, _, _, _, _, _, _, _, _, _, _, _, rfl, rfl, HF⟩
  ·
   cases p
   ·
    cases q
    ·
     refine AnyOrder.wpOp_out rfl (by rfl) ?_
     exact hK _ _ ⟨_, _, _, _, _, _, _, _, _, _, _, _, _, _, _, _, _, _, _, _, _, rfl, rfl, HF⟩
    ·
     have hx := zab (zaa HXA.out) HF.out
     obtain ⟨x0, x1, x2, x3, x4, x5⟩ := box_six hx
     refine AnyOrder.wpOp_go rfl (by rfl) ?_
     go_wp2_with fail
     exact ⟨_, _, _, _, _, _, _, _, _, _, _, _, _, _, _, _, _, _, _, _, _, rfl, rfl, HF⟩
   ·
    refine AnyOrder.wpOp_out rfl (by rfl) ?_
    exact hK _ _ ⟨_, _, _, _, _, _, _, _, _, _, _, _, _, _, _, _, _, _, _, _, _, rfl, rfl, HF⟩
  ·
   cases p
   ·
    cases q
    ·
     refine AnyOrder.wpOp_out rfl (by rfl) ?_
     exact hK _ _ ⟨_, _, _, _, _, _, _, _, _, _, _, _, _, _, _, _, _, _, _, _, _, rfl, rfl, HF⟩
    ·
     refine AnyOrder.wpOp_go rfl (by rfl) ?_
     go_wp2_with fail
     refine (node_Dead.calls x.f0.f0 x.f0.f1 x.f1.f0 x.f1.f1 x.f2 x.f3 da V (by unfold node_Dead.f; rw [HDA.out])).mono ?_
     rintro e V' ⟨rfl, hb⟩
     exact hK _ _ ⟨_, _, _, _, _, _, _, _, _, _, _, _, _, _, _, _, _, _, _, _, _, rfl, rfl, ⟨za8 HF.out hb⟩⟩
   ·
    refine AnyOrder.wpOp_out rfl (by rfl) ?_
    exact hK _ _ ⟨_, _, _, _, _, _, _, _, _, _, _, _, _, _, _, _, _, _, _, _, _, rfl, rfl, HF⟩
  ·
   cases p
   ·
    cases q
    ·
     refine AnyOrder.wpOp_out rfl (by rfl) ?_
     exact hK _ _ ⟨_, _, _, _, _, _, _, _, _, _, _, _, _, _, _, _, _, _, _, _, _, rfl, rfl, HF⟩
    ·
     refine AnyOrder.wpOp_go rfl (by rfl) ?_
     go_wp2_with fail
     exact ⟨_, _, _, _, _, _, _, _, _, _, _, _, _, _, _, _, _, _, _, _, _, rfl, rfl, HF⟩
   ·
    refine AnyOrder.wpOp_out rfl (by rfl) ?_
    exact hK _ _ ⟨_, _, _, _, _, _, _, _, _, _, _, _, _, _, _, _, _, _, _, _, _, rfl, rfl, HF⟩
  ·
   cases p
   ·
    cases q
    ·
     refine AnyOrder.wpOp_go rfl (by rfl) ?_
     go_wp2_with fail
     exact ⟨_, _, _, _, _, _, _, _, _, _, _, _, _, _, _, _, _, _, _, _, _, rfl, rfl, HF⟩
    ·
     refine AnyOrder.wpOp_go rfl (by rfl) ?_
     go_wp2_with fail
     exact ⟨_, _, _, _, _, _, _, _, _, _, _, _, _, _, _, _, _, _, _, _, _, rfl, rfl, HF⟩
   ·
    refine AnyOrder.wpOp_out rfl (by rfl) ?_
    exact hK _ _ ⟨_, _, _, _, _, _, _, _, _, _, _, _, _, _, _, _, _, _, _, _, _, rfl, rfl, HF⟩
  ·
   cases p
   ·
    cases q
    ·
     refine AnyOrder.wpOp_out rfl (by rfl) ?_
     exact hK _ _ ⟨_, _, _, _, _, _, _, _, _, _, _, _, _, _, _, _, _, _, _, _, _, rfl, rfl, HF⟩
    ·
     cases da
     ·
      have hx := zab (zaa HXB.out) HF.out
      obtain ⟨x0, x1, x2, x3, x4, x5⟩ := box_six hx
      refine AnyOrder.wpOp_go rfl (by rfl) ?_
      go_wp2_with fail
      exact ⟨_, _, _, _, _, _, _, _, _, _, _, _, _, _, _, _, _, _, _, _, _, rfl, rfl, HF⟩
     ·
      refine AnyOrder.wpOp_out rfl (by rfl) ?_
      exact hK _ _ ⟨_, _, _, _, _, _, _, _, _, _, _, _, _, _, _, _, _, _, _, _, _, rfl, rfl, HF⟩
   ·
    refine AnyOrder.wpOp_out rfl (by rfl) ?_
    exact hK _ _ ⟨_, _, _, _, _, _, _, _, _, _, _, _, _, _, _, _, _, _, _, _, _, rfl, rfl, HF⟩
  ·
   cases p
   ·
    cases q
    ·
     refine AnyOrder.wpOp_out rfl (by rfl) ?_
     exact hK _ _ ⟨_, _, _, _, _, _, _, _, _, _, _, _, _, _, _, _, _, _, _, _, _, rfl, rfl, HF⟩
    ·
     cases da
     ·
      refine AnyOrder.wpOp_go rfl (by rfl) ?_
      go_wp2_with fail
      refine (node_Dead.calls y.f0.f0 y.f0.f1 y.f1.f0 y.f1.f1 y.f2 y.f3 db V (by unfold node_Dead.f; rw [HDB.out])).mono ?_
      rintro e V' ⟨rfl, hb⟩
      exact hK _ _ ⟨_, _, _, _, _, _, _, _, _, _, _, _, _, _, _, _, _, _, _, _, _, rfl, rfl, ⟨za8 HF.out hb⟩⟩
     ·
      refine AnyOrder.wpOp_out rfl (by rfl) ?_
      exact hK _ _ ⟨_, _, _, _, _, _, _, _, _, _, _, _, _, _, _, _, _, _, _, _, _, rfl, rfl, HF⟩
   ·
    refine AnyOrder.wpOp_out rfl (by rfl) ?_
    exact hK _ _ ⟨_, _, _, _, _, _, _, _, _, _, _, _, _, _, _, _, _, _, _, _, _, rfl, rfl, HF⟩
  ·
   cases p
   ·
    cases q
    ·
     refine AnyOrder.wpOp_out rfl (by rfl) ?_
     exact hK _ _ ⟨_, _, _, _, _, _, _, _, _, _, _, _, _, _, _, _, _, _, _, _, _, rfl, rfl, HF⟩
    ·
     cases da
     ·
      refine AnyOrder.wpOp_go rfl (by rfl) ?_
      go_wp2_with fail
      exact ⟨_, _, _, _, _, _, _, _, _, _, _, _, _, _, _, _, _, _, _, _, _, rfl, rfl, HF⟩
     ·
      refine AnyOrder.wpOp_out rfl (by rfl) ?_
      exact hK _ _ ⟨_, _, _, _, _, _, _, _, _, _, _, _, _, _, _, _, _, _, _, _, _, rfl, rfl, HF⟩
   ·
    refine AnyOrder.wpOp_out rfl (by rfl) ?_
    exact hK _ _ ⟨_, _, _, _, _, _, _, _, _, _, _, _, _, _, _, _, _, _, _, _, _, rfl, rfl, HF⟩
  ·
   cases p
   ·
    cases q
    ·
     refine AnyOrder.wpOp_go rfl (by rfl) ?_
     go_wp2_with fail
     exact ⟨_, _, _, _, _, _, _, _, _, _, _, _, _, _, _, _, _, _, _, _, _, rfl, rfl, HF⟩
    ·
     cases da
     ·
      refine AnyOrder.wpOp_go rfl (by rfl) ?_
      go_wp2_with fail
      exact ⟨_, _, _, _, _, _, _, _, _, _, _, _, _, _, _, _, _, _, _, _, _, rfl, rfl, HF⟩
     ·
      refine AnyOrder.wpOp_go rfl (by rfl) ?_
      go_wp2_with fail
      exact ⟨_, _, _, _, _, _, _, _, _, _, _, _, _, _, _, _, _, _, _, _, _, rfl, rfl, HF⟩
   ·
    refine AnyOrder.wpOp_out rfl (by rfl) ?_
    exact hK _ _ ⟨_, _, _, _, _, _, _, _, _, _, _, _, _, _, _, _, _, _, _, _, _, rfl, rfl, HF⟩
  ·
   cases p
   ·
    refine AnyOrder.wpOp_go rfl (by rfl) ?_
    go_wp2_with fail
    exact ⟨_, _, _, _, _, _, _, _, _, _, _, _, _, _, _, _, _, _, _, _, _, rfl, rfl, HF⟩
   ·
    refine AnyOrder.wpOp_go rfl (by rfl) ?_
    go_wp2_with fail
    exact ⟨_, _, _, _, _, _, _, _, _, _, _, _, _, _, _, _, _, _, _, _, _, rfl, rfl, HF⟩
 case last =>
  rintro L ac V ⟨l0, l1, l2, l3, l4, l5, l6, l7, l8, l9, l10, l11, l12, l13, l14, l15, l16, l17, l18, l19, l20, rfl, rfl, HF⟩ hr
  obtain ⟨rfl, rfl, rfl, rfl, rfl, rfl, rfl, rfl, rfl, rfl, rfl, rfl, rfl, rfl, rfl, rfl, rfl, rfl, rfl, rfl, rfl, -⟩ := AnyOrder.alls rfl (by kernel_rfl) hr
  clear hr
  simp only [sel_true, selv_true]
  clear HP HQ
  have HB := za0.mk (za8 HB.out (za8 (za3 (Below.refl _ V2)) HF.out))
  have HXA := za0.mk (zab (zaa HXA.out) HF.out)
  have HXB := za0.mk (zab (zaa HXB.out) HF.out)
  have HXZ := za0.mk (zab (zaa HXZ.out) HF.out)
  clear HF
  cases hs : (p || ((q && !da) && !db)) with
  | true =>
   have HM := za0.mk (HMN.out.1 hs)
   clear hs
   go_wp2_with (refine wpList_boxNode rfl (.tmp 4) (.tmp 37) rfl rfl HXZ.out nodeZ rfl rfl ?_; intro V4 hz4 hg4)
   have HB4 := za0.mk (grown_on hg4 HB.out (fun k e => by cases e; omega))
   have HZ4 := za0.mk hz4
   refine bodyPost_ret (results_box rfl _ _ _ _ _ _ _ _ _ rfl HZ4.out) rfl ?_
   exact ⟨by unfold mergeV; rw [HM.out]; rfl, HB4.out⟩
  | false =>
   have HM := za0.mk (HMN.out.2 hs)
   clear hs
   obtain ⟨x0, x1, x2, x3, x4, x5⟩ := box_six HXB.out
   go_wp2_with fail
   clear x0 x1 x2 x3 x4 x5
   refine (node_Dead.calls y.f0.f0 y.f0.f1 y.f1.f0 y.f1.f1 y.f2 y.f3 db V (by unfold node_Dead.f; rw [HDB.out])).mono ?_
   rintro e V3 ⟨rfl, hb⟩
   have HXA := za0.mk (zab HXA.out hb)
   have HXB := za0.mk (zab HXB.out hb)
   have HXZ := za0.mk (zab HXZ.out hb)
   have HB := za0.mk (za8 HB.out hb)
   clear hb
   cases db with
   | true =>
    obtain ⟨x0, x1, x2, x3, x4, x5⟩ := box_six HXB.out
    go_wp2_with (refine wpList_boxNode rfl (.tmp 4) (.tmp 41) rfl rfl HXZ.out y rfl rfl ?_; intro V4 hz4 hg4)
    have HB4 := za0.mk (grown_on hg4 HB.out (fun k e => by cases e; omega))
    have HZ4 := za0.mk hz4
    refine bodyPost_ret (results_box rfl _ _ _ _ _ _ _ _ _ rfl HZ4.out) rfl ?_
    exact ⟨by unfold mergeV; rw [HM.out, if_pos (beq_iff_eq.1 HDB.out)]; rfl, HB4.out⟩
   | false =>
    obtain ⟨x0, x1, x2, x3, x4, x5⟩ := box_six HXA.out
    go_wp2_with (refine wpList_boxNode rfl (.tmp 4) (.tmp 42) rfl rfl HXZ.out x rfl rfl ?_; intro V4 hz4 hg4)
    have HB4 := za0.mk (grown_on hg4 HB.out (fun k e => by cases e; omega))
    have HZ4 := za0.mk hz4
    refine bodyPost_ret (results_box rfl _ _ _ _ _ _ _ _ _ rfl HZ4.out) rfl ?_
    exact ⟨by unfold mergeV; rw [HM.out, if_neg (beq_eq_false_iff_ne.1 HDB.out)]; rfl, HB4.out⟩
end
section
theorem op_append_rows {T : TypeId} (hT : Tryz.prog.underlying T = some (.slice 42)) {o : Oper} {a : Act} {K : Act → World → Prop} {Q : Exit → Act → World → Prop} {W : World} (base : Nat) (hgd : o.guard = none) (s x : Operand)
  (ho : o.op = .call { callee := .builtin .append, args := #[s, x], argTypes := #[T, T] }) (v : Value) (xs ys : List Node) (A : Option Addr) (m c : Nat) (hs : a.eval s = v) (hx : a.eval x = .slice A m c)
  (hr : RN W base v xs) (hc : Kd.C k42 W A m ys) (hb : base ≤ W.heap.size) (hl : xs.length + m ≤ 1000000)
  (h : ∀ v1 w1, RN w1 base v1 (xs ++ ys) → W.grownBy w1 v.ownBlock → (v1.ownBlock = v.ownBlock ∨ ∃ b, v1.ownBlock = some b ∧ W.heap.size ≤ b) → K (a.put o.dst v1) w1) : o.wp Tryz.prog a W K Q := by
 have hw : Region.wanted o (yielded #[] a.tmps) = true := by simp [Region.wanted, hgd]
 have := Kd.R_append_rows_step (P := Tryz.prog) (ops := #[]) (Q := Q) (Kc := K) k42 (w0 := W) base hw s x T 42 (.agg #[(.int .i64 0), (.int .i64 0), (.int .i64 0), (.int .i64 0), (.int .i64 0), (.int .i32 0)]) 48 ho hT info42 rfl (by decide) (by decide) v xs ys A m c (fun _ => True) (fun _ => False) hs hx hr hc (fun x cs h => (by rw [k42_open h]; exact k42_mkM _ _ _ x)) (fun _ hk => hk.elim) (fun _ _ => trivial) (Below.refl _ _) hb (by omega)
  (fun v1 w1 h1 _ h3 h4 => h v1 w1 h1 h3 h4)
 rwa [if_pos hw] at this
theorem app_rows {T : TypeId} (hT : Tryz.prog.underlying T = some (.slice 42)) {ops : Array Oper} {Q : Exit → Act → World → Prop} {o : Oper} {rest : List Oper} {a : Act} {W : World} (base : Nat) (hgd : o.guard = none) (s x : Operand)
  (ho : o.op = .call { callee := .builtin .append, args := #[s, x], argTypes := #[T, T] }) (v : Value) (xs ys : List Node) (A : Option Addr) (m c : Nat) (hs : a.eval s = v) (hx : a.eval x = .slice A m c)
  (hr : RN W base v xs) (hc : Kd.C k42 W A m ys) (hb : base ≤ W.heap.size) (hl : xs.length + m ≤ 1000000)
  (h : ∀ v1 w1, RN w1 base v1 (xs ++ ys) → W.grownBy w1 v.ownBlock → wpList Tryz.prog ops Q rest (a.put o.dst v1) w1) : wpList Tryz.prog ops Q (o :: rest) a W := by
 refine Kd.R_append_rows k42 (w0 := W) base hgd s x T 42 (.agg #[(.int .i64 0), (.int .i64 0), (.int .i64 0), (.int .i64 0), (.int .i64 0), (.int .i32 0)]) 48 ho hT info42 rfl (by decide) (by decide) v xs ys A m c (fun _ => True) (fun _ => False) hs hx hr hc (fun x cs h => (by rw [k42_open h]; exact k42_mkM _ _ _ x)) (fun _ hk => hk.elim) (fun _ _ => trivial) (Below.refl _ _) hb (by omega) ?_
 intro v1 w1 h1 _ h3 _
 exact h v1 w1 h1 h3
theorem cut_fromT {T : TypeId} (hT : Tryz.prog.underlying T = some (.slice 42)) {A : Option Addr} {n c k : Nat} (hm : k ≤ n) (W : World) : (Instr.sliceAt T (.slice A n c) (some (.int .i64 (k : Int))) none none).run Tryz.prog W = .ok (.slice (if c = k then A else A.map (·.add (k * 6))) (n - k) (c - k)) W := by
 obtain ⟨i, hi, _, hs, _⟩ := info_get infoN
 exact run_sliced hT (cut_from _ _ .i64 hT hi 6 hs A n c (k : Int) (by omega) (by omega) W)
/-- All but the first of a row. -/
theorem tail_row {T : TypeId} (hT : Tryz.prog.underlying T = some (.slice 42)) {w : World} {A : Option Addr} {n c : Nat} {x : Node} {l : List Node} (h : Kd.C k42 w A n (x :: l)) (hc : n ≤ c) :
  ∃ (A' : Option Addr) (c' : Nat), Kd.C k42 w A' l.length l ∧ l.length ≤ c' ∧ ∀ W, (Instr.sliceAt T (.slice A n c) (some (.int .i64 1)) none none).run Tryz.prog W = .ok (.slice A' l.length c') W := by
 have hn : (x :: l).length = n := Kd.C_len h
 have h1 := C_from h hn (k := 1) (by rw [← hn]; simp) hc
 have e : n - 1 = l.length := by rw [← hn]; simp
 rw [e] at h1
 refine ⟨_, c - 1, h1, by omega, fun W => ?_⟩
 have := cut_fromT hT (A := A) (n := n) (c := c) (k := 1) (by rw [← hn]; simp) W
 rw [e] at this
 exact this
/-- A slice of nodes that was laid just now. -/
theorem lit_nodes (W : World) (base : Nat) (hb : base ≤ W.heap.size) (xs : List Node) (n : Nat) (hn : xs.length = n) (hp : 0 < n) (hm : n ≤ 1000000) (cs : Array Value) (hcs : cs.toList = cellsOf xs) :
  Kd.R k42 42 (W.alloc (.cells cs 42 (0, 0))) base (fun _ => True) (.slice (some ⟨W.heap.size, 0, none⟩) n n) xs := by
 subst hn
 have hsz : cs.size = xs.length * 6 := by rw [← Array.length_toList, hcs, cellsOf_length]
 refine R_of_cells ⟨cellsOf_length _, .inr ⟨W.heap.size, xs.length, cs, rfl, hb, zaj _ _, Nat.le_refl _, (show xs.length ≤ 9223372036854775807 by omega), hsz, ?_⟩⟩ (fun _ _ => trivial)
 rw [← hcs, List.take_of_length_le (by rw [Array.length_toList]; omega)]
end
end Go.Proofs.YtefejajofmpjdaaGreat.PWalk
end
section
namespace Go.Proofs.YtefejajofmpjdaaGreat.PWalk
open Go.RowKit Go.Proofs.YtefejajofmpjdaaGreatW.PrintWords Go.Proofs.YtefejajofmpjdaaGreatW.PrintLast Go.Proofs.YtefejajofmpjdaaGreatW.PrintMore
set_option linter.unusedVariables false
set_option linter.unusedSimpArgs false
section
def join_Valid.f (l0 : List (S42)) : Option (Bool) := (store_Valid.f l0).bind fun t126 => (some t126)
set_option maxHeartbeats 8000000 in
set_option maxRecDepth 100000 in
theorem join_Valid.calls (A0 : Option Addr) (c0 : Nat) (l0 : List (S42)) (r : Bool) (w : World) (hr0 : Kd.C k42 w A0 l0.length l0) (hc0 : l0.length ≤ c0) (h : join_Valid.f l0 = some r) :
  Calls Tryz.prog 32 #[.slice A0 l0.length c0] w fun e w' => e = .returned (.bool r) ∧ Below w.heap.size w w' := by
 have HR0 := za0.mk hr0
 have HC0 := za0.mk hc0
 clear hr0 hc0
 have HB := za0.mk (Below.refl w.heap.size w)
 have H : ((store_Valid.f l0).bind fun t126 => (some t126)) = some r := h
 clear h
 replace H := Option.bind_eq_some_iff.mp H
 obtain ⟨t126, A20, H⟩ := H
 replace H : (some t126) = some r := H
 have A2 := za0.mk A20
 clear A20
 obtain rfl := Option.some.inj H
 go_enter Tryz.func32, Tryz.ntmps32
 go_wp2_with (first | ((with_reducible refine zam (f := 48) rfl ?_); refine goesL_ (some 4) rfl rfl Tryz.func48 (by kernel_rfl) rfl #[.slice A0 l0.length c0] rfl (by (try simp only [List.map_toArray, List.map_cons, List.map_nil]); first | done | rfl | (simp only [List.length_drop, List.length_take]; rfl)) ?_; (with_reducible refine (store_Valid.calls _ _ l0 t126 _ ?side1 ?side2 A2.out).mono ?_); (case side1 => repeat (first | exact HR0.out | (with_reducible refine Kd.C_alloc ?_ _) | (with_reducible refine Kd.C_drewN ?_ _) | (with_reducible refine Kd.C_drew ?_))); (case side2 => exact HC0.out); rintro e w3 ⟨rfl, hb⟩; refine ⟨_, rfl, ?_⟩; have n0_ := za0.mk (zad (by repeat (first | (with_reducible first | exact HB.out | apply za2 | apply za1 | apply za3) | exact HB.out)) hb); clear HB; have HB := n0_; clear n0_; (try clear hb); (try clear hb2); (try clear hk); (try clear hi)))
 go_ret
 exact ⟨by first | rfl | (simp [zai, zah] <;> rfl) | (simp [*, zai, zah] <;> rfl), by repeat (first | (with_reducible first | exact HB.out | apply za2 | apply za1 | apply za3) | exact HB.out)⟩
end
end Go.Proofs.YtefejajofmpjdaaGreat.PWalk
end
section
namespace Go.Proofs.YtefejajofmpjdaaGreat.PWalk
open Go.RowKit Go.Proofs.YtefejajofmpjdaaGreatW.PrintWords Go.Proofs.YtefejajofmpjdaaGreatW.PrintLast Go.Proofs.YtefejajofmpjdaaGreatW.PrintMore
set_option linter.unusedVariables false
set_option linter.unusedSimpArgs false
open Go.Shelf
attribute [local go_sem] Oper.semAt_some
section
/-- The join of two states: none where they don't agree. -/
def joinN : Nat → List Node → List Node → Option (List Node)
 | 0, l, m => some (l ++ m)
 | k + 1, l, m => match l, m with
  | [], m => some m
  | x :: l, [] => some (x :: l)
  | x :: l, y :: m => if dotLt x.f0 y.f0 = true then (joinN k l (y :: m)).map (x :: ·) else if dotLt y.f0 x.f0 = true then (joinN k (x :: l) m).map (y :: ·) else (mergeN x y).bind fun z => (joinN k l m).map (z :: ·)
def joinOf (l m : List Node) : Option (List Node) := joinN (l.length + m.length) l m
def joinR (l m : List Node) : List Node × Int := if storeOk l = true ∧ storeOk m = true then (match joinOf l m with | some r => (r, 0) | none => ([], 15)) else ([], 2)
def join_Join.f (l0 l1 : List Node) : Option (List Node × Int) := if l0.length + l1.length ≤ 400000 then some (joinR l0 l1) else none
theorem joinN_cons (k : Nat) (x y : Node) (l m : List Node) : joinN (k + 1) (x :: l) (y :: m) = if dotLt x.f0 y.f0 = true then (joinN k l (y :: m)).map (x :: ·) else if dotLt y.f0 x.f0 = true then (joinN k (x :: l) m).map (y :: ·) else (mergeN x y).bind fun z => (joinN k l m).map (z :: ·) := rfl
theorem joinN_nil (k : Nat) (m : List Node) : joinN k [] m = some m := by cases k <;> rfl
theorem joinN_nil2 (k : Nat) (l : List Node) : joinN k l [] = some l := by
 cases k with
 | zero => simp [joinN]
 | succ k => cases l <;> rfl
theorem joinN_fuel : ∀ (k : Nat) (l m : List Node) (q : Nat), l.length + m.length ≤ k → l.length + m.length ≤ q → joinN k l m = joinN q l m
 | k, [], m, q, _, _ => by rw [joinN_nil, joinN_nil]
 | k, x :: l, [], q, _, _ => by rw [joinN_nil2, joinN_nil2]
 | 0, x :: l, y :: m, q, h, _ => by simp at h
 | k + 1, x :: l, y :: m, 0, _, h => by simp at h
 | k + 1, x :: l, y :: m, q + 1, h, h2 => by
  simp only [List.length_cons] at h h2
  rw [joinN_cons, joinN_cons, joinN_fuel k l (y :: m) q (by simp only [List.length_cons]; omega) (by simp only [List.length_cons]; omega), joinN_fuel k (x :: l) m q (by simp only [List.length_cons]; omega) (by simp only [List.length_cons]; omega), joinN_fuel k l m q (by omega) (by omega)]
theorem joinOf_nil (m : List Node) : joinOf [] m = some m := joinN_nil _ _
theorem joinOf_nil2 (l : List Node) : joinOf l [] = some l := joinN_nil2 _ _
theorem joinOf_cons (x y : Node) (l m : List Node) : joinOf (x :: l) (y :: m) = if dotLt x.f0 y.f0 = true then (joinOf l (y :: m)).map (x :: ·) else if dotLt y.f0 x.f0 = true then (joinOf (x :: l) m).map (y :: ·) else (mergeN x y).bind fun z => (joinOf l m).map (z :: ·) := by
 unfold joinOf
 have h : (x :: l).length + (y :: m).length = (l.length + m.length + 1) + 1 := by simp only [List.length_cons]; omega
 rw [h, joinN_cons, joinN_fuel (l.length + m.length + 1) l (y :: m) (l.length + (y :: m).length) (by simp only [List.length_cons]; omega) (Nat.le_refl _), joinN_fuel (l.length + m.length + 1) (x :: l) m ((x :: l).length + m.length) (by simp only [List.length_cons]; omega) (Nat.le_refl _), joinN_fuel (l.length + m.length + 1) l m (l.length + m.length) (by omega) (Nat.le_refl _)]
theorem addr_zero (a : Addr) : a.add (0 * 6) = a := by
 cases a
 simp [Addr.add]
theorem node_first {w wr : World} {a : Addr} {n : Nat} {x : Node} {xs : List Node} (h : Kd.C k42 w (some a) n (x :: xs)) (hb : Below w.heap.size w wr) :
  wr.cell? a = some (.int .i64 x.f0.f0) ∧ wr.cell? ⟨a.block, a.off + 1, none⟩ = some (.int .i64 x.f0.f1) ∧ wr.cell? ⟨a.block, a.off + 2, none⟩ = some (.int .i64 x.f1.f0) ∧ wr.cell? ⟨a.block, a.off + 3, none⟩ = some (.int .i64 x.f1.f1) ∧ wr.cell? ⟨a.block, a.off + 4, none⟩ = some (.int .i64 x.f2) ∧ wr.cell? ⟨a.block, a.off + 5, none⟩ = some (.int .i32 x.f3) := by
 obtain ⟨ad, e, h⟩ := node_at h hb 0 x rfl
 cases e
 rwa [addr_zero] at h
theorem op_boxNode {o : Oper} {a : Act} {K : Act → World → Prop} {Q : Exit → Act → World → Prop} (s x : Operand) (ho : o.op = .store 42 s x) (hd : o.dst = none) {w : World} {g : Nat} {c0 c1 c2 c3 c4 c5 : Value}
  (hg : w.heap[g]? = some (.cells #[c0, c1, c2, c3, c4, c5] 42 (0, 0))) (y : Node) (hs : a.eval s = .pointer (some ⟨g, 0, none⟩)) (hx : a.eval x = vNode y)
  (hk : ∀ w', w'.heap[g]? = some (boxN y) → w.grownBy w' (some g) → K a w') : o.wp Tryz.prog a w K Q := by
 obtain ⟨i0, hi0, hz0, hz1, hz2⟩ := info_parts infoN
 refine wp_store_row 42 s x ho g _ hs hx 42 _ hg (by rw [hi0]; show some i0.size = some 6; rw [hz1]) rfl (Array.all_eq_true_iff_forall_mem.2 (by intro v hv; simp at hv; rcases hv with rfl | rfl | rfl | rfl | rfl | rfl <;> rfl)) ?_
 rw [hd]
 exact hk _ (setRow_at hg _) (setRow_grown w g _)
/-- What has come up where one node is put to the end of the own row. -/
structure JA (w : World) (out : List Node) (x : Node) (vo : Value) (lm lp lq lb la l8 l9 lr l10 ll : Bool) (Z : World → Prop) (g : Nat) (v2 : Value) (V : World) : Prop where
 ord5 : la = true → lb = true
 ord8 : l8 = true → la = true ∧ lm = true
 ord9 : l9 = true → lp = true ∧ lq = true
 ord10 : l10 = true → lr = true
 below : Below w.heap.size w V
 r1 : la = false → RN V w.heap.size vo out
 bx : lb = true → la = false → V.heap[g]? = some (boxN x)
 r2 : la = true → RN V w.heap.size v2 (out ++ [x])
 kz : la = false → Z V
 ordB : lb = true → ll = true
/-- What has come up where two nodes are merged. -/
structure JM (w : World) (out : List Node) (vo : Value) (z : Node) (l10 l11 : Bool) (g : Nat) (V : World) : Prop where
 ord : l11 = true → l10 = true
 below : Below w.heap.size w V
 r1 : RN V w.heap.size vo out
 bz : l10 = true → l11 = false → V.heap[g]? = some boxZ
 bx : l11 = true → V.heap[g]? = some (boxN z)
 ge : l10 = true → w.heap.size ≤ g ∧ ∀ q, vo.ownBlock = some q → q ≠ g
theorem cmp_lt {a b : Dot} (h : dotLt a b = true) : dotCmp a b = -1 := by unfold dotCmp; rw [if_pos h]
theorem cmp_gt {a b : Dot} (h : dotLt a b = false) (k : dotLt b a = true) : dotCmp a b = 1 := by unfold dotCmp; rw [if_neg (by rw [h]; decide), if_pos k]
theorem cmp_eq {a b : Dot} (h : dotLt a b = false) (k : dotLt b a = false) : dotCmp a b = 0 := by unfold dotCmp; rw [if_neg (by rw [h]; decide), if_neg (by rw [k]; decide)]
def lenV : Value → Nat
 | .slice _ n _ => n
 | _ => 0
def jn5Inv (W0 : World) (ada adb : Addr) (Ao : Option Addr) (na ca nb cb no co : Nat) (x y : Node) (z2 z3 z4 z5 z7 z8 z9 z10 z11 z12 z13 z14 z15 z16 z17 z18 z19 z20 z21 z22 z23 z24 z25 z26 z27 z28 z29 z30 z31 z32 z33 z34 z35 z36 z37 z38 z39 z40 z41 z42 z43 z44 z45 z46 z47 z48 z49 z50 z51 z52 z53 z54 z55 z56 z57 z58 z59 z60 z61 z62 z63 z64 z65 z66 z67 z68 z69 z70 z71 z72 z73 z74 z75 z76 z77 z78 z79 : Value) (L : Array Bool) (ac : Act) (V : World) : Prop := ∃ (l0 l1 l2 l3 l4 l5 l6 l7 l8 : Bool), L = #[l0, l1, l2, l3, l4, l5, l6, l7, l8] ∧ ac = { tmps := #[.slice (some ada) na ca, .slice (some adb) nb cb, z2, z3, z4, z5, .slice Ao no co, z7, z8, z9, z10, z11, z12, z13, z14, z15, z16, z17, z18, z19, z20, z21, z22, z23, z24, selv l0 (.slice (some ada) na ca) (z25), selv l1 (.pointer (some (ada.add 0))) (z26), selv l2 (.pointer (some (ada.add 0))) (z27), selv l3 (vDot x.f0) (z28), selv l4 (.slice (some adb) nb cb) (z29), selv l5 (.pointer (some (adb.add 0))) (z30), selv l6 (.pointer (some (adb.add 0))) (z31), selv l7 (vDot y.f0) (z32), selv l8 (.int .i64 (dotCmp x.f0 y.f0)) (z33), z34, z35, z36, z37, z38, z39, z40, z41, z42, z43, z44, z45, z46, z47, z48, z49, z50, z51, z52, z53, z54, z55, z56, z57, z58, z59, z60, z61, z62, z63, z64, z65, z66, z67, z68, z69, z70, z71, z72, z73, z74, z75, z76, z77, z78, z79], defers := [] } ∧ za0 (Below W0.heap.size W0 V)
def jn11Inv (W0 : World) (ada adb : Addr) (Ao A' : Option Addr) (na ca nb cb no co n' c' : Nat) (x y : Node) (out : List Node) (z2 z3 z4 z5 z7 z8 z9 z10 z11 z12 z13 z14 z15 z16 z17 z18 z19 z20 z21 z22 z23 z24 z25 z26 z27 z28 z29 z30 z31 z32 z33 z34 z35 z36 z37 z38 z39 z40 z41 z42 z43 z44 z45 z46 z47 z48 z49 z50 z51 z52 z53 z54 z55 z56 z57 z58 z59 z60 z61 z62 z63 z64 z65 z66 z67 z68 z69 z70 z71 z72 z73 z74 z75 z76 z77 z78 z79 : Value) (L : Array Bool) (ac : Act) (V : World) : Prop := ∃ (l0 l1 l2 l3 l4 l5 l6 l7 l8 l9 : Bool) (g : Nat) (v2 : Value), L = #[l0, l1, l2, l3, l4, l5, l6, l7, l8, l9] ∧ ac = { tmps := #[selv l9 (.slice A' n' c') (.slice (some ada) na ca), .slice (some adb) nb cb, z2, z3, z4, z5, selv l8 (v2) (.slice Ao no co), z7, z8, z9, z10, z11, z12, z13, z14, z15, z16, z17, z18, z19, z20, z21, z22, z23, z24, z25, z26, z27, z28, z29, z30, z31, z32, z33, z34, z35, z36, z37, z38, z39, z40, z41, z42, z43, z44, z45, z46, z47, z48, z49, z50, z51, z52, z53, z54, z55, z56, selv l0 (.slice Ao no co) (z57), selv l1 (.slice (some ada) na ca) (z58), selv l2 (.pointer (some (ada.add 0))) (z59), selv l3 (vNode x) (z60), selv l4 (.slice (some ⟨g, 0, none⟩) 1 1) (z61), selv l5 (v2) (z62), selv l6 (.slice (some ada) na ca) (z63), selv l7 (.slice A' n' c') (z64), z65, z66, z67, z68, z69, z70, z71, z72, z73, z74, z75, z76, z77, z78, z79], defers := [] } ∧ za0 (JA W0 out x (.slice Ao no co) l0 l1 l6 l4 l5 l8 l9 false false true (fun _ => True) g v2 V)
def jn13Inv (W0 : World) (ada adb : Addr) (Ao A' : Option Addr) (na ca nb cb no co n' c' : Nat) (x y : Node) (out : List Node) (z2 z3 z4 z5 z7 z8 z9 z10 z11 z12 z13 z14 z15 z16 z17 z18 z19 z20 z21 z22 z23 z24 z25 z26 z27 z28 z29 z30 z31 z32 z33 z34 z35 z36 z37 z38 z39 z40 z41 z42 z43 z44 z45 z46 z47 z48 z49 z50 z51 z52 z53 z54 z55 z56 z57 z58 z59 z60 z61 z62 z63 z64 z65 z66 z67 z68 z69 z70 z71 z72 z73 z74 z75 z76 z77 z78 z79 : Value) (L : Array Bool) (ac : Act) (V : World) : Prop := ∃ (l0 l1 l2 l3 l4 l5 l6 l7 l8 l9 : Bool) (g : Nat) (v2 : Value), L = #[l0, l1, l2, l3, l4, l5, l6, l7, l8, l9] ∧ ac = { tmps := #[.slice (some ada) na ca, selv l9 (.slice A' n' c') (.slice (some adb) nb cb), z2, z3, z4, z5, selv l8 (v2) (.slice Ao no co), z7, z8, z9, z10, z11, z12, z13, z14, z15, z16, z17, z18, z19, z20, z21, z22, z23, z24, z25, z26, z27, z28, z29, z30, z31, z32, z33, z34, z35, z36, z37, z38, z39, z40, z41, z42, z43, z44, z45, z46, z47, z48, z49, z50, z51, z52, z53, z54, z55, z56, z57, z58, z59, z60, z61, z62, z63, z64, z65, z66, selv l0 (.slice Ao no co) (z67), selv l1 (.slice (some adb) nb cb) (z68), selv l2 (.pointer (some (adb.add 0))) (z69), selv l3 (vNode y) (z70), selv l4 (.slice (some ⟨g, 0, none⟩) 1 1) (z71), selv l5 (v2) (z72), selv l6 (.slice (some adb) nb cb) (z73), selv l7 (.slice A' n' c') (z74), z75, z76, z77, z78, z79], defers := [] } ∧ za0 (JA W0 out y (.slice Ao no co) l0 l1 l6 l4 l5 l8 l9 false false true (fun _ => True) g v2 V)
def jn6Inv (W0 : World) (ada adb : Addr) (Ao : Option Addr) (na ca nb cb no co : Nat) (x y z : Node) (er : Int) (out : List Node) (z2 z3 z4 z5 z7 z8 z9 z10 z11 z12 z13 z14 z15 z16 z17 z18 z19 z20 z21 z22 z23 z24 z25 z26 z27 z28 z29 z30 z31 z32 z33 z34 z35 z36 z37 z38 z39 z40 z41 z42 z43 z44 z45 z46 z47 z48 z49 z50 z51 z52 z53 z54 z55 z56 z57 z58 z59 z60 z61 z62 z63 z64 z65 z66 z67 z68 z69 z70 z71 z72 z73 z74 z75 z76 z77 z78 z79 : Value) (L : Array Bool) (ac : Act) (V : World) : Prop := ∃ (l0 l1 l2 l3 l4 l5 l6 l7 l8 l9 l10 l11 l12 : Bool) (g : Nat), L = #[l0, l1, l2, l3, l4, l5, l6, l7, l8, l9, l10, l11, l12] ∧ ac = { tmps := #[.slice (some ada) na ca, .slice (some adb) nb cb, z2, z3, z4, z5, .slice Ao no co, selv l10 (.pointer (some ⟨g, 0, none⟩)) (z7), selv l12 (.int .i64 er) (z8), z9, z10, z11, z12, z13, z14, z15, z16, z17, z18, z19, z20, z21, z22, z23, z24, z25, z26, z27, z28, z29, z30, z31, z32, z33, selv l7 (.tuple #[vNode z, .int .i64 er]) (z34), selv l0 (.slice (some ada) na ca) (z35), selv l1 (.pointer (some (ada.add 0))) (z36), selv l2 (vNode x) (z37), selv l3 (.slice (some adb) nb cb) (z38), selv l4 (.pointer (some (adb.add 0))) (z39), selv l5 (vNode y) (z40), selv l6 (.tuple #[vNode z, .int .i64 er]) (z41), selv l8 (vNode z) (z42), selv l9 (.int .i64 er) (z43), z44, z45, z46, z47, z48, z49, z50, z51, z52, z53, z54, z55, z56, z57, z58, z59, z60, z61, z62, z63, z64, z65, z66, z67, z68, z69, z70, z71, z72, z73, z74, z75, z76, z77, z78, z79], defers := [] } ∧ za0 (JM W0 out (.slice Ao no co) z l10 l11 g V)
def jn9Inv (W0 : World) (ada adb : Addr) (Ao A' B' : Option Addr) (na ca nb cb no co n' c' m' d' gz : Nat) (x y z : Node) (out : List Node) (z2 z3 z4 z5 z8 z9 z10 z11 z12 z13 z14 z15 z16 z17 z18 z19 z20 z21 z22 z23 z24 z25 z26 z27 z28 z29 z30 z31 z32 z33 z34 z35 z36 z37 z38 z39 z40 z41 z42 z43 z44 z45 z46 z47 z48 z49 z50 z51 z52 z53 z54 z55 z56 z57 z58 z59 z60 z61 z62 z63 z64 z65 z66 z67 z68 z69 z70 z71 z72 z73 z74 z75 z76 z77 z78 z79 : Value) (L : Array Bool) (ac : Act) (V : World) : Prop := ∃ (l0 l1 l2 l3 l4 l5 l6 l7 l8 l9 l10 : Bool) (g : Nat) (v2 : Value), L = #[l0, l1, l2, l3, l4, l5, l6, l7, l8, l9, l10] ∧ ac = { tmps := #[selv l9 (.slice A' n' c') (.slice (some ada) na ca), selv l10 (.slice B' m' d') (.slice (some adb) nb cb), z2, z3, z4, z5, selv l8 (v2) (.slice Ao no co), .pointer (some ⟨gz, 0, none⟩), z8, z9, z10, z11, z12, z13, z14, z15, z16, z17, z18, z19, z20, z21, z22, z23, z24, z25, z26, z27, z28, z29, z30, z31, z32, z33, z34, z35, z36, z37, z38, z39, z40, z41, z42, z43, z44, z45, z46, selv l0 (.slice Ao no co) (z47), selv l1 (vNode z) (z48), selv l2 (.slice (some ⟨g, 0, none⟩) 1 1) (z49), selv l3 (v2) (z50), selv l4 (.slice (some ada) na ca) (z51), selv l5 (.slice A' n' c') (z52), selv l6 (.slice (some adb) nb cb) (z53), selv l7 (.slice B' m' d') (z54), z55, z56, z57, z58, z59, z60, z61, z62, z63, z64, z65, z66, z67, z68, z69, z70, z71, z72, z73, z74, z75, z76, z77, z78, z79], defers := [] } ∧ za0 (JA W0 out z (.slice Ao no co) l0 l4 l4 l2 l3 l8 l9 l6 l10 l1 (fun V => V.heap[gz]? = some (boxN z)) g v2 V)
set_option maxHeartbeats 4000000 in
set_option maxRecDepth 100000 in
theorem join_Join.calls (A0 : Option Addr) (c0 : Nat) (l0 : List Node) (A1 : Option Addr) (c1 : Nat) (l1 : List Node) (r1 : List Node) (r2 : Int) (w : World) (hr0 : Kd.C k42 w A0 l0.length l0) (hc0 : l0.length ≤ c0) (hr1 : Kd.C k42 w A1 l1.length l1) (hc1 : l1.length ≤ c1) (h : join_Join.f l0 l1 = some (r1, r2)) :
  Calls Tryz.prog 20 #[.slice A0 l0.length c0, .slice A1 l1.length c1] w fun e w' => ∃ v0_ : Value, e = .returned (.tuple #[v0_, .int .i64 r2]) ∧ Kd.R k42 42 w' w.heap.size (fun _ => True) v0_ r1 ∧ Below w.heap.size w w' := by
 unfold join_Join.f at h
 by_cases hl : l0.length + l1.length ≤ 400000
 rotate_left
 ·
  rw [if_neg hl] at h; cases h
 rw [if_pos hl] at h
 have HRES := za0.mk (Option.some.inj h)
 have HL := za0.mk hl
 have HR0 := za0.mk hr0
 have HR1 := za0.mk hr1
 have HC0 := za0.mk hc0
 have HC1 := za0.mk hc1
 have HB : za0 (Below w.heap.size w w) := ⟨Below.refl _ _⟩
 obtain ⟨b0, Hb0⟩ : ∃ b, za0 (storeOk l0 = b) := ⟨_, ⟨rfl⟩⟩
 obtain ⟨b1, Hb1⟩ : ∃ b, za0 (storeOk l1 = b) := ⟨_, ⟨rfl⟩⟩
 have HV0 := za0.mk (join_Valid.calls A0 c0 l0 b0 w hr0 hc0 (by unfold join_Valid.f store_Valid.f; rw [if_pos (by omega), Hb0.out]; rfl))
 have HV1 := za0.mk (fun W hb => join_Valid.calls A1 c1 l1 b1 W (Kd.C_below hr1 hb) hc1 (by unfold join_Valid.f store_Valid.f; rw [if_pos (by omega), Hb1.out]; rfl))
 have hu := Tryz.underlying42
 have hu2 := Tryz.underlying39
 obtain ⟨n0, Hn0⟩ : ∃ n, za0 (l0.length = n) := ⟨_, ⟨rfl⟩⟩
 obtain ⟨n1, Hn1⟩ : ∃ n, za0 (l1.length = n) := ⟨_, ⟨rfl⟩⟩
 rw [Hn0.out, Hn1.out]
 rw [Hn0.out] at HV0
 rw [Hn1.out] at HV1
 clear h hl hr0 hr1 hc0 hc1
 go_enter Tryz.func20, Tryz.ntmps20
 go_wp2_with fail
 refine HV0.out.mono ?_
 rintro e V0 ⟨rfl, hb⟩
 have HB := za0.mk (za8 HB.out hb)
 clear hb HV0
 cases b0
 ·
  clear HV1
  go_wp2
  go_ret2
  have h := HRES.out
  unfold joinR at h
  rw [if_neg (fun h => by have := h.1; rw [Hb0.out] at this; cases this)] at h
  cases h
  exact ⟨_, rfl, Kd.R_nil _ _ _ _ _, HB.out⟩
 go_wp2_with fail
 refine (HV1.out V0 HB.out).mono ?_
 rintro e V1 ⟨rfl, hb⟩
 have HB := za0.mk (za8 HB.out hb)
 clear hb HV1
 cases b1
 ·
  go_wp2
  go_ret2
  have h := HRES.out
  unfold joinR at h
  rw [if_neg (fun h => by have := h.2; rw [Hb1.out] at this; cases this)] at h
  cases h
  exact ⟨_, rfl, Kd.R_nil _ _ _ _ _, HB.out⟩
 have HRJ : za0 ((match joinOf l0 l1 with | some r => (r, (0 : Int)) | none => ([], 15)) = (r1, r2)) := ⟨by have := HRES.out; unfold joinR at this; rwa [if_pos ⟨Hb0.out, Hb1.out⟩] at this⟩
 have HOK : za0 ((∀ x ∈ l0, nodeOk x = true) ∧ ∀ x ∈ l1, nodeOk x = true) := ⟨by
  have h0 := Hb0.out
  have h1 := Hb1.out
  unfold storeOk at h0 h1
  rw [Bool.and_eq_true, List.all_eq_true] at h0 h1
  exact ⟨h0.1, h1.1⟩⟩
 clear HRES Hb0 Hb1
 go_wp2_with fail
 go_loopw [0, 1, 6] (fun a b s wr => ∃ (la lb out : List Node) (Aa Ab Ao : Option Addr) (na nb no ca cb co : Nat), a = .slice Aa na ca ∧ b = .slice Ab nb cb ∧ s = .slice Ao no co ∧ za0 (la.length = na ∧ lb.length = nb ∧ na ≤ ca ∧ nb ≤ cb ∧ na + nb + no ≤ 400000) ∧ za0 (Kd.C k42 w Aa na la) ∧ za0 (Kd.C k42 w Ab nb lb) ∧ za0 (RN wr w.heap.size (.slice Ao no co) out) ∧ za0 ((∀ x ∈ la, nodeOk x = true) ∧ ∀ x ∈ lb, nodeOk x = true) ∧ za0 ((joinOf la lb).map (out ++ ·) = joinOf l0 l1) ∧ za0 (Below w.heap.size w wr)) (fun a b _ _ => lenV a + lenV b)
 case atStart => exact ⟨l0, l1, [], _, _, none, n0, n1, 0, c0, c1, 0, rfl, rfl, rfl, ⟨Hn0.out, Hn1.out, by rw [← Hn0.out]; exact HC0.out, by rw [← Hn1.out]; exact HC1.out, by rw [← Hn0.out, ← Hn1.out]; exact HL.out⟩, ⟨by rw [← Hn0.out]; exact HR0.out⟩, ⟨by rw [← Hn1.out]; exact HR1.out⟩, ⟨Kd.R_nil _ _ _ _ _⟩, HOK, ⟨by simp⟩, HB⟩
 case round =>
  obtain ⟨la, lb, out, Aa, Ab, Ao, na, nb, no, ca, cb, co, rfl, rfl, rfl, HN, HCA, HCB, HO, HOK, HJ, HB⟩ := hrel
  clear Hn0 Hn1 HL HR0 HR1 HC0 HC1
  have HNO : za0 (out.length = no) := ⟨(RN.C HO.out).1⟩
  cases la with
  | nil =>
   obtain rfl : na = 0 := HN.out.1.symm
   have HFIN : za0 (joinOf l0 l1 = some (out ++ [] ++ lb)) := ⟨by rw [← HJ.out, joinOf_nil]; simp⟩
   go_wp2_with (first | (at_builtin; refine app_rows Tryz.underlying23 w.heap.size rfl (.tmp 75) (.tmp 76) rfl (.slice Ao no co) out [] Aa 0 ca rfl rfl HO.out (Kd.C_below HCA.out HB.out) HB.out.size (by have := HN.out; have := HNO.out; omega) ?_; intro v8 W8 hr8 hg8) | (at_builtin; refine app_rows Tryz.underlying23 w.heap.size rfl (.tmp 77) (.tmp 78) rfl v8 (out ++ []) lb Ab nb cb rfl rfl hr8 (Kd.C_below HCB.out (grown_below HB.out HO.out hg8)) (grown_below HB.out HO.out hg8).size (by have := HN.out; have := HNO.out; have h9 := HN.out.1; rw [List.length_append]; omega) ?_; intro v9 W9 hr9 hg9) | fail)
   go_ret2
   have hfin := HRJ.out
   rw [HFIN.out] at hfin
   cases hfin
   exact ⟨_, rfl, hr9, grown_below (grown_below HB.out HO.out hg8) hr8 hg9⟩
  | cons x la =>
   have HNA : za0 (0 < na) := ⟨by have := HN.out.1; simp only [List.length_cons] at this; omega⟩
   have hg1 : decide ((na : Int) > 0) = true := decide_eq_true (by have := HNA.out; omega)
   have hg2 : decide (0 < na) = true := decide_eq_true HNA.out
   cases lb with
   | nil =>
    obtain rfl : nb = 0 := HN.out.2.1.symm
    have HFIN : za0 (joinOf l0 l1 = some (out ++ (x :: la) ++ [])) := ⟨by rw [← HJ.out, joinOf_nil2]; simp⟩
    go_wp2_with (first | (at_builtin; refine app_rows Tryz.underlying23 w.heap.size rfl (.tmp 75) (.tmp 76) rfl (.slice Ao no co) out (x :: la) Aa na ca rfl rfl HO.out (Kd.C_below HCA.out HB.out) HB.out.size (by have := HN.out; have := HNO.out; omega) ?_; intro v8 W8 hr8 hg8) | (at_builtin; refine app_rows Tryz.underlying23 w.heap.size rfl (.tmp 77) (.tmp 78) rfl v8 (out ++ (x :: la)) [] Ab 0 cb rfl rfl hr8 (Kd.C_below HCB.out (grown_below HB.out HO.out hg8)) (grown_below HB.out HO.out hg8).size (by have := HN.out; have := HNO.out; have h9 := HN.out.1; rw [List.length_append]; omega) ?_; intro v9 W9 hr9 hg9) | fail)
    go_ret2
    have hfin := HRJ.out
    rw [HFIN.out] at hfin
    cases hfin
    exact ⟨_, rfl, hr9, grown_below (grown_below HB.out HO.out hg8) hr8 hg9⟩
   | cons y lb =>
    have HNB : za0 (0 < nb) := ⟨by have := HN.out.2.1; simp only [List.length_cons] at this; omega⟩
    have hg3 : decide ((nb : Int) > 0) = true := decide_eq_true (by have := HNB.out; omega)
    have hg4 : decide (0 < nb) = true := decide_eq_true HNB.out
    obtain ⟨ada, e, _⟩ := node_at HCA.out (Below.refl _ w) 0 x rfl
    subst e
    obtain ⟨adb, e, _⟩ := node_at HCB.out (Below.refl _ w) 0 y rfl
    subst e
    go_wp2_with fail
    clear hg1 hg2 hg3 hg4
    refine AnyOrder.wp_region (by kernel_rfl) (jn5Inv wr.drew ada adb Ao na ca nb cb no co x y _ _ _ _ _ _ _ _ _ _ _ _ _ _ _ _ _ _ _ _ _ _ _ _ _ _ _ _ _ _ _ _ _ _ _ _ _ _ _ _ _ _ _ _ _ _ _ _ _ _ _ _ _ _ _ _ _ _ _ _ _ _ _ _ _ _ _ _ _ _ _ _ _ _ _ _ _) ⟨false, false, false, false, false, false, false, false, false, rfl, rfl, ⟨Below.refl _ _⟩⟩ ?step ?last
    case step =>
     rintro L ac V i ⟨l0, l1, l2, l3, l4, l5, l6, l7, l8, rfl, rfl, HF⟩ hi K hK
     rcases AnyOrder.up hi [0, 4, 1, 2, 3, 5, 6, 7, 8] rfl with rfl | rfl | rfl | rfl | rfl | rfl | rfl | rfl | rfl
     all_goals
      replace hi := AnyOrder.first hi rfl
      repeat (obtain ⟨ha, hi⟩ := hi; first | obtain rfl := ha | clear ha)
      clear hi
      try simp only [sel_true, selv_true] at hK ⊢
     iterate 2
      ·
       refine AnyOrder.wpOp_go rfl (by rfl) ?_
       go_wp2_with fail
       exact ⟨_, _, _, _, _, _, _, _, _, rfl, rfl, HF⟩
     iterate 2
      ·
       have hna := HNA.out
       refine AnyOrder.wpOp_go rfl (by rfl) ?_
       go_wp2_with fail
       exact ⟨_, _, _, _, _, _, _, _, _, rfl, rfl, HF⟩
     ·
      obtain ⟨x0, x1, x2, x3, x4, x5⟩ := node_first HCA.out (za8 HB.out (za8 (za3 (Below.refl _ wr)) HF.out))
      refine AnyOrder.wpOp_go rfl (by rfl) ?_
      go_wp2_with fail
      exact ⟨_, _, _, _, _, _, _, _, _, rfl, rfl, HF⟩
     iterate 2
      ·
       have hnb := HNB.out
       refine AnyOrder.wpOp_go rfl (by rfl) ?_
       go_wp2_with fail
       exact ⟨_, _, _, _, _, _, _, _, _, rfl, rfl, HF⟩
     ·
      obtain ⟨y0, y1, y2, y3, y4, y5⟩ := node_first HCB.out (za8 HB.out (za8 (za3 (Below.refl _ wr)) HF.out))
      refine AnyOrder.wpOp_go rfl (by rfl) ?_
      go_wp2_with fail
      exact ⟨_, _, _, _, _, _, _, _, _, rfl, rfl, HF⟩
     ·
      refine AnyOrder.wpOp_go rfl (by rfl) ?_
      go_wp2_with fail
      refine (dot_Compare.calls 3 x.f0.f0 x.f0.f1 y.f0.f0 y.f0.f1 (dotCmp x.f0 y.f0) V (dotCompare_is 0 x.f0 y.f0)).mono ?_
      rintro e V' ⟨rfl, hb⟩
      exact hK _ _ ⟨_, _, _, _, _, _, _, _, _, rfl, rfl, ⟨za8 HF.out hb⟩⟩
    case last =>
     rintro L ac V ⟨l0, l1, l2, l3, l4, l5, l6, l7, l8, rfl, rfl, HF⟩ hr
     obtain ⟨rfl, rfl, rfl, rfl, rfl, rfl, rfl, rfl, rfl, -⟩ := AnyOrder.alls rfl (by kernel_rfl) hr
     clear hr
     simp only [sel_true, selv_true]
     have HB := za0.mk (za8 HB.out (za8 (za3 (Below.refl _ wr)) HF.out))
     have HO := za0.mk (RN.below' HO.out (za8 (za3 (Below.refl _ wr)) HF.out))
     have HTA := za0.mk (tail_row Tryz.underlying23 HCA.out HN.out.2.2.1)
     have HTB := za0.mk (tail_row Tryz.underlying23 HCB.out HN.out.2.2.2.1)
     have HLA : za0 (na = la.length + 1 ∧ nb = lb.length + 1) := ⟨HN.out.1.symm, HN.out.2.1.symm⟩
     have HJC := za0.mk (joinOf_cons x y la lb)
     clear HF
     generalize V = V6 at *
     cases hxy : dotLt x.f0 y.f0 with
     | true =>
      rw [cmp_lt hxy]
      have HJ : za0 ((joinOf la (y :: lb)).map ((out ++ [x]) ++ ·) = joinOf l0 l1) := ⟨by
       rw [← HJ.out, HJC.out, if_pos hxy, Option.map_map]
       congr 1
       funext r
       simp⟩
      clear hxy HTB HJC
      obtain ⟨A', c', hC', hc', hT'⟩ := HTA.out
      obtain ⟨na', Hna'⟩ : ∃ n, za0 (la.length = n) := ⟨_, ⟨rfl⟩⟩
      rw [Hna'.out] at hC' hc' hT' HLA
      have HC' := za0.mk hC'
      have Hc' := za0.mk hc'
      have HTS := za0.mk hT'
      clear HTA hC' hc' hT'
      go_wp2_with fail
      refine AnyOrder.wp_region (by kernel_rfl) (jn11Inv w ada adb Ao A' na ca nb cb no co na' c' x y out _ _ _ _ _ _ _ _ _ _ _ _ _ _ _ _ _ _ _ _ _ _ _ _ _ _ _ _ _ _ _ _ _ _ _ _ _ _ _ _ _ _ _ _ _ _ _ _ _ _ _ _ _ _ _ _ _ _ _ _ _ _ _ _ _ _ _ _ _ _ _ _ _ _ _ _ _) ⟨false, false, false, false, false, false, false, false, false, false, 0, undef, rfl, rfl, ⟨⟨fun h => (by cases h), fun h => (by cases h), fun h => (by cases h), fun h => (by cases h), za8 HB.out (za3 (Below.refl _ V6)), fun _ => RN.below' HO.out (za3 (Below.refl _ V6)), fun h _ => (by cases h), fun h => (by cases h), fun _ => trivial, fun _ => rfl⟩⟩⟩ ?step ?last
      case step =>
       rintro L ac V i ⟨l0, l1, l2, l3, l4, l5, l6, l7, l8, l9, g, v2, rfl, rfl, HF⟩ hi K hK
       rcases AnyOrder.up hi [0, 1, 2, 3, 4, 5, 6, 7, 8, 9] rfl with rfl | rfl | rfl | rfl | rfl | rfl | rfl | rfl | rfl | rfl
       all_goals
        replace hi := AnyOrder.first hi rfl
        repeat (obtain ⟨ha, hi⟩ := hi; first | obtain rfl := ha | clear ha)
        clear hi
        try simp only [sel_true, selv_true] at hK ⊢
       ·
        obtain rfl : l8 = false := by cases l8 with | false => rfl | true => cases (HF.out.ord8 rfl).2
        (try simp only [selv_false] at hK ⊢)
        refine AnyOrder.wpOp_go rfl (by rfl) ?_
        go_wp2_with fail
        exact ⟨_, _, _, _, _, _, _, _, _, _, g, v2, rfl, rfl, ⟨⟨HF.out.ord5, fun h => (by cases h), HF.out.ord9, HF.out.ord10, HF.out.below, HF.out.r1, HF.out.bx, HF.out.r2, HF.out.kz, HF.out.ordB⟩⟩⟩
       ·
        obtain rfl : l9 = false := by cases l9 with | false => rfl | true => cases (HF.out.ord9 rfl).1
        (try simp only [selv_false] at hK ⊢)
        refine AnyOrder.wpOp_go rfl (by rfl) ?_
        go_wp2_with fail
        exact ⟨_, _, _, _, _, _, _, _, _, _, g, v2, rfl, rfl, ⟨⟨HF.out.ord5, HF.out.ord8, fun h => (by cases h), HF.out.ord10, HF.out.below, HF.out.r1, HF.out.bx, HF.out.r2, HF.out.kz, HF.out.ordB⟩⟩⟩
       ·
        have hna := HNA.out
        refine AnyOrder.wpOp_go rfl (by rfl) ?_
        go_wp2_with fail
        exact ⟨_, _, _, _, _, _, _, _, _, _, g, v2, rfl, rfl, HF⟩
       ·
        obtain ⟨q0, q1, q2, q3, q4, q5⟩ := node_first HCA.out HF.out.below
        refine AnyOrder.wpOp_go rfl (by rfl) ?_
        go_wp2_with fail
        exact ⟨_, _, _, _, _, _, _, _, _, _, g, v2, rfl, rfl, HF⟩
       ·
        obtain rfl : l5 = false := by cases l5 with | false => rfl | true => cases HF.out.ord5 rfl
        obtain rfl : l8 = false := by cases l8 with | false => rfl | true => cases (HF.out.ord8 rfl).1
        have hb1 := za2 (Below.refl _ V) (boxN x)
        (try simp only [selv_false] at hK ⊢)
        refine AnyOrder.wpOp_go rfl (by rfl) ?_
        go_wp2_with fail
        exact ⟨_, _, _, _, _, _, _, _, _, _, V.heap.size, v2, rfl, rfl, ⟨⟨fun h => (by cases h), fun h => (by cases h), HF.out.ord9, HF.out.ord10, za8 HF.out.below hb1, fun _ => RN.below' (HF.out.r1 rfl) hb1, fun _ _ => zaj _ _, fun h => (by cases h), fun _ => trivial, fun _ => rfl⟩⟩⟩
       ·
        obtain rfl : l8 = false := by cases l8 with | false => rfl | true => cases (HF.out.ord8 rfl).1
        have hr1 := HF.out.r1 rfl
        (try simp only [selv_false] at hK ⊢)
        refine AnyOrder.wpOp_go rfl (by rfl) ?_
        refine op_append_rows Tryz.underlying23 w.heap.size rfl (.tmp 57) (.tmp 61) rfl (.slice Ao no co) out [x] (some ⟨g, 0, none⟩) 1 1 rfl rfl hr1 (boxN_C (HF.out.bx rfl rfl)) HF.out.below.size (by have := HNO.out; have := HN.out; omega) ?_
        intro v3 W3 h1 h2 _
        exact hK _ _ ⟨_, _, _, _, _, _, _, _, _, _, g, v3, rfl, rfl, ⟨⟨fun _ => rfl, fun h => (by cases h), HF.out.ord9, HF.out.ord10, grown_below HF.out.below hr1 h2, fun h => (by cases h), fun _ => fun h => (by cases h), fun _ => h1, fun h => (by cases h), HF.out.ordB⟩⟩⟩
       ·
        obtain rfl : l9 = false := by cases l9 with | false => rfl | true => cases (HF.out.ord9 rfl).2
        (try simp only [selv_false] at hK ⊢)
        refine AnyOrder.wpOp_go rfl (by rfl) ?_
        go_wp2_with fail
        exact ⟨_, _, _, _, _, _, _, _, _, _, g, v2, rfl, rfl, ⟨⟨HF.out.ord5, HF.out.ord8, fun h => (by cases h), HF.out.ord10, HF.out.below, HF.out.r1, HF.out.bx, HF.out.r2, HF.out.kz, HF.out.ordB⟩⟩⟩
       ·
        refine AnyOrder.wpOp_go rfl (by rfl) ?_
        refine op_slice 23 (.tmp 63) (some (.const (.int .i64 1))) none rfl rfl rfl rfl (HTS.out V) ?_
        exact hK _ _ ⟨_, _, _, _, _, _, _, _, _, _, g, v2, rfl, rfl, HF⟩
       ·
        refine AnyOrder.wpOp_go rfl (by rfl) ?_
        go_wp2_with fail
        exact ⟨_, _, _, _, _, _, _, _, _, _, g, v2, rfl, rfl, ⟨⟨HF.out.ord5, fun _ => ⟨rfl, rfl⟩, HF.out.ord9, HF.out.ord10, HF.out.below, HF.out.r1, HF.out.bx, HF.out.r2, HF.out.kz, HF.out.ordB⟩⟩⟩
       ·
        refine AnyOrder.wpOp_go rfl (by rfl) ?_
        go_wp2_with fail
        exact ⟨_, _, _, _, _, _, _, _, _, _, g, v2, rfl, rfl, ⟨⟨HF.out.ord5, HF.out.ord8, fun _ => ⟨rfl, rfl⟩, HF.out.ord10, HF.out.below, HF.out.r1, HF.out.bx, HF.out.r2, HF.out.kz, HF.out.ordB⟩⟩⟩
      case last =>
       rintro L ac V ⟨l0, l1, l2, l3, l4, l5, l6, l7, l8, l9, g, v2, rfl, rfl, HF⟩ hr
       obtain ⟨rfl, rfl, rfl, rfl, rfl, rfl, rfl, rfl, rfl, rfl, -⟩ := AnyOrder.alls rfl (by kernel_rfl) hr
       clear hr
       simp only [sel_true, selv_true]
       have HO := za0.mk (HF.out.r2 rfl)
       have HB := za0.mk HF.out.below
       obtain ⟨A3, c3, rfl⟩ := RN.slice HO.out
       have HL3 : za0 ((out ++ [x]).length = no + 1) := ⟨by rw [List.length_append, HNO.out]; rfl⟩
       rw [HL3.out] at HO ⊢
       clear HF
       go_wp2
       go_roundw
       case rel => exact ⟨la, y :: lb, out ++ [x], A', _, A3, na', nb, no + 1, c', cb, c3, rfl, rfl, rfl, ⟨Hna'.out, HN.out.2.1, Hc'.out, HN.out.2.2.2.1, by have := HN.out; have := HLA.out; omega⟩, HC', HCB, HO, ⟨fun z hz => HOK.out.1 z (List.mem_cons_of_mem _ hz), HOK.out.2⟩, HJ, HB⟩
       case measure => have := HLA.out; simp only [lenV]; omega
     | false =>
      cases hyx : dotLt y.f0 x.f0 with
      | true =>
       rw [cmp_gt hxy hyx]
       have HJ : za0 ((joinOf (x :: la) lb).map ((out ++ [y]) ++ ·) = joinOf l0 l1) := ⟨by
        rw [← HJ.out, HJC.out, if_neg (by rw [hxy]; decide), if_pos hyx, Option.map_map]
        congr 1
        funext r
        simp⟩
       clear hxy hyx HTA HJC
       obtain ⟨A', c', hC', hc', hT'⟩ := HTB.out
       obtain ⟨nb', Hnb'⟩ : ∃ n, za0 (lb.length = n) := ⟨_, ⟨rfl⟩⟩
       rw [Hnb'.out] at hC' hc' hT' HLA
       have HC' := za0.mk hC'
       have Hc' := za0.mk hc'
       have HTS := za0.mk hT'
       clear HTB hC' hc' hT'
       go_wp2_with fail
       refine AnyOrder.wp_region (by kernel_rfl) (jn13Inv w ada adb Ao A' na ca nb cb no co nb' c' x y out _ _ _ _ _ _ _ _ _ _ _ _ _ _ _ _ _ _ _ _ _ _ _ _ _ _ _ _ _ _ _ _ _ _ _ _ _ _ _ _ _ _ _ _ _ _ _ _ _ _ _ _ _ _ _ _ _ _ _ _ _ _ _ _ _ _ _ _ _ _ _ _ _ _ _ _ _) ⟨false, false, false, false, false, false, false, false, false, false, 0, undef, rfl, rfl, ⟨⟨fun h => (by cases h), fun h => (by cases h), fun h => (by cases h), fun h => (by cases h), za8 HB.out (za3 (Below.refl _ V6)), fun _ => RN.below' HO.out (za3 (Below.refl _ V6)), fun h _ => (by cases h), fun h => (by cases h), fun _ => trivial, fun _ => rfl⟩⟩⟩ ?step ?last
       case step =>
        rintro L ac V i ⟨l0, l1, l2, l3, l4, l5, l6, l7, l8, l9, g, v2, rfl, rfl, HF⟩ hi K hK
        rcases AnyOrder.up hi [0, 1, 2, 3, 4, 5, 6, 7, 8, 9] rfl with rfl | rfl | rfl | rfl | rfl | rfl | rfl | rfl | rfl | rfl
        all_goals
         replace hi := AnyOrder.first hi rfl
         repeat (obtain ⟨ha, hi⟩ := hi; first | obtain rfl := ha | clear ha)
         clear hi
         try simp only [sel_true, selv_true] at hK ⊢
        ·
         obtain rfl : l8 = false := by cases l8 with | false => rfl | true => cases (HF.out.ord8 rfl).2
         (try simp only [selv_false] at hK ⊢)
         refine AnyOrder.wpOp_go rfl (by rfl) ?_
         go_wp2_with fail
         exact ⟨_, _, _, _, _, _, _, _, _, _, g, v2, rfl, rfl, ⟨⟨HF.out.ord5, fun h => (by cases h), HF.out.ord9, HF.out.ord10, HF.out.below, HF.out.r1, HF.out.bx, HF.out.r2, HF.out.kz, HF.out.ordB⟩⟩⟩
        ·
         obtain rfl : l9 = false := by cases l9 with | false => rfl | true => cases (HF.out.ord9 rfl).1
         (try simp only [selv_false] at hK ⊢)
         refine AnyOrder.wpOp_go rfl (by rfl) ?_
         go_wp2_with fail
         exact ⟨_, _, _, _, _, _, _, _, _, _, g, v2, rfl, rfl, ⟨⟨HF.out.ord5, HF.out.ord8, fun h => (by cases h), HF.out.ord10, HF.out.below, HF.out.r1, HF.out.bx, HF.out.r2, HF.out.kz, HF.out.ordB⟩⟩⟩
        ·
         have hna := HNB.out
         refine AnyOrder.wpOp_go rfl (by rfl) ?_
         go_wp2_with fail
         exact ⟨_, _, _, _, _, _, _, _, _, _, g, v2, rfl, rfl, HF⟩
        ·
         obtain ⟨q0, q1, q2, q3, q4, q5⟩ := node_first HCB.out HF.out.below
         refine AnyOrder.wpOp_go rfl (by rfl) ?_
         go_wp2_with fail
         exact ⟨_, _, _, _, _, _, _, _, _, _, g, v2, rfl, rfl, HF⟩
        ·
         obtain rfl : l5 = false := by cases l5 with | false => rfl | true => cases HF.out.ord5 rfl
         obtain rfl : l8 = false := by cases l8 with | false => rfl | true => cases (HF.out.ord8 rfl).1
         have hb1 := za2 (Below.refl _ V) (boxN y)
         (try simp only [selv_false] at hK ⊢)
         refine AnyOrder.wpOp_go rfl (by rfl) ?_
         go_wp2_with fail
         exact ⟨_, _, _, _, _, _, _, _, _, _, V.heap.size, v2, rfl, rfl, ⟨⟨fun h => (by cases h), fun h => (by cases h), HF.out.ord9, HF.out.ord10, za8 HF.out.below hb1, fun _ => RN.below' (HF.out.r1 rfl) hb1, fun _ _ => zaj _ _, fun h => (by cases h), fun _ => trivial, fun _ => rfl⟩⟩⟩
        ·
         obtain rfl : l8 = false := by cases l8 with | false => rfl | true => cases (HF.out.ord8 rfl).1
         have hr1 := HF.out.r1 rfl
         (try simp only [selv_false] at hK ⊢)
         refine AnyOrder.wpOp_go rfl (by rfl) ?_
         refine op_append_rows Tryz.underlying23 w.heap.size rfl (.tmp 67) (.tmp 71) rfl (.slice Ao no co) out [y] (some ⟨g, 0, none⟩) 1 1 rfl rfl hr1 (boxN_C (HF.out.bx rfl rfl)) HF.out.below.size (by have := HNO.out; have := HN.out; omega) ?_
         intro v3 W3 h1 h2 _
         exact hK _ _ ⟨_, _, _, _, _, _, _, _, _, _, g, v3, rfl, rfl, ⟨⟨fun _ => rfl, fun h => (by cases h), HF.out.ord9, HF.out.ord10, grown_below HF.out.below hr1 h2, fun h => (by cases h), fun _ => fun h => (by cases h), fun _ => h1, fun h => (by cases h), HF.out.ordB⟩⟩⟩
        ·
         obtain rfl : l9 = false := by cases l9 with | false => rfl | true => cases (HF.out.ord9 rfl).2
         (try simp only [selv_false] at hK ⊢)
         refine AnyOrder.wpOp_go rfl (by rfl) ?_
         go_wp2_with fail
         exact ⟨_, _, _, _, _, _, _, _, _, _, g, v2, rfl, rfl, ⟨⟨HF.out.ord5, HF.out.ord8, fun h => (by cases h), HF.out.ord10, HF.out.below, HF.out.r1, HF.out.bx, HF.out.r2, HF.out.kz, HF.out.ordB⟩⟩⟩
        ·
         refine AnyOrder.wpOp_go rfl (by rfl) ?_
         refine op_slice 23 (.tmp 73) (some (.const (.int .i64 1))) none rfl rfl rfl rfl (HTS.out V) ?_
         exact hK _ _ ⟨_, _, _, _, _, _, _, _, _, _, g, v2, rfl, rfl, HF⟩
        ·
         refine AnyOrder.wpOp_go rfl (by rfl) ?_
         go_wp2_with fail
         exact ⟨_, _, _, _, _, _, _, _, _, _, g, v2, rfl, rfl, ⟨⟨HF.out.ord5, fun _ => ⟨rfl, rfl⟩, HF.out.ord9, HF.out.ord10, HF.out.below, HF.out.r1, HF.out.bx, HF.out.r2, HF.out.kz, HF.out.ordB⟩⟩⟩
        ·
         refine AnyOrder.wpOp_go rfl (by rfl) ?_
         go_wp2_with fail
         exact ⟨_, _, _, _, _, _, _, _, _, _, g, v2, rfl, rfl, ⟨⟨HF.out.ord5, HF.out.ord8, fun _ => ⟨rfl, rfl⟩, HF.out.ord10, HF.out.below, HF.out.r1, HF.out.bx, HF.out.r2, HF.out.kz, HF.out.ordB⟩⟩⟩
       case last =>
        rintro L ac V ⟨l0, l1, l2, l3, l4, l5, l6, l7, l8, l9, g, v2, rfl, rfl, HF⟩ hr
        obtain ⟨rfl, rfl, rfl, rfl, rfl, rfl, rfl, rfl, rfl, rfl, -⟩ := AnyOrder.alls rfl (by kernel_rfl) hr
        clear hr
        simp only [sel_true, selv_true]
        have HO := za0.mk (HF.out.r2 rfl)
        have HB := za0.mk HF.out.below
        obtain ⟨A3, c3, rfl⟩ := RN.slice HO.out
        have HL3 : za0 ((out ++ [y]).length = no + 1) := ⟨by rw [List.length_append, HNO.out]; rfl⟩
        rw [HL3.out] at HO ⊢
        clear HF
        go_wp2
        go_roundw
        case rel => exact ⟨x :: la, lb, out ++ [y], _, A', A3, na, nb', no + 1, ca, c', c3, rfl, rfl, rfl, ⟨HN.out.1, Hnb'.out, HN.out.2.2.1, Hc'.out, by have := HN.out; have := HLA.out; omega⟩, HCA, HC', HO, ⟨HOK.out.1, fun z hz => HOK.out.2 z (List.mem_cons_of_mem _ hz)⟩, HJ, HB⟩
        case measure => have := HLA.out; simp only [lenV]; omega
      | false =>
       rw [cmp_eq hxy hyx]
       have HJC : za0 (joinOf (x :: la) (y :: lb) = (mergeN x y).bind fun z => (joinOf la lb).map (z :: ·)) := ⟨by rw [HJC.out, if_neg (by rw [hxy]; decide), if_neg (by rw [hyx]; decide)]⟩
       have HMC := za0.mk (fun W => merge_call x y W (HOK.out.1 x (List.mem_cons_self ..)) (HOK.out.2 y (List.mem_cons_self ..)) (dotLt_total hxy hyx))
       clear hxy hyx
       obtain ⟨z, er, HZ⟩ : ∃ z er, za0 (mergeV x y = .tuple #[vNode z, .int .i64 er] ∧ ((mergeN x y = some z ∧ er = 0) ∨ (mergeN x y = none ∧ er = 15))) := by
        unfold mergeV
        cases mergeN x y with
        | none => exact ⟨nodeZ, 15, ⟨rfl, .inr ⟨rfl, rfl⟩⟩⟩
        | some z => exact ⟨z, 0, ⟨rfl, .inl ⟨rfl, rfl⟩⟩⟩
       rw [HZ.out.1] at HMC
       go_wp2_with fail
       refine AnyOrder.wp_region (by kernel_rfl) (jn6Inv w ada adb Ao na ca nb cb no co x y z er out _ _ _ _ _ _ _ _ _ _ _ _ _ _ _ _ _ _ _ _ _ _ _ _ _ _ _ _ _ _ _ _ _ _ _ _ _ _ _ _ _ _ _ _ _ _ _ _ _ _ _ _ _ _ _ _ _ _ _ _ _ _ _ _ _ _ _ _ _ _ _ _ _ _ _ _ _) ⟨false, false, false, false, false, false, false, false, false, false, false, false, false, 0, rfl, rfl, ⟨⟨fun h => (by cases h), za8 HB.out (za3 (Below.refl _ V6)), RN.below' HO.out (za3 (Below.refl _ V6)), fun h _ => (by cases h), fun h => (by cases h), fun h => (by cases h)⟩⟩⟩ ?step ?last
       case step =>
        rintro L ac V i ⟨l0, l1, l2, l3, l4, l5, l6, l7, l8, l9, l10, l11, l12, g, rfl, rfl, HF⟩ hi K hK
        rcases AnyOrder.up hi [0, 3, 7, 8, 9, 12, 1, 2, 4, 5, 6, 10, 11] rfl with rfl | rfl | rfl | rfl | rfl | rfl | rfl | rfl | rfl | rfl | rfl | rfl | rfl
        all_goals
         replace hi := AnyOrder.first hi rfl
         repeat (obtain ⟨ha, hi⟩ := hi; first | obtain rfl := ha | clear ha)
         clear hi
         try simp only [sel_true, selv_true] at hK ⊢
        iterate 6
         ·
          refine AnyOrder.wpOp_go rfl (by rfl) ?_
          go_wp2_with fail
          exact ⟨_, _, _, _, _, _, _, _, _, _, _, _, _, g, rfl, rfl, HF⟩
        ·
         have hna := HNA.out
         refine AnyOrder.wpOp_go rfl (by rfl) ?_
         go_wp2_with fail
         exact ⟨_, _, _, _, _, _, _, _, _, _, _, _, _, g, rfl, rfl, HF⟩
        ·
         obtain ⟨q0, q1, q2, q3, q4, q5⟩ := node_first HCA.out HF.out.below
         refine AnyOrder.wpOp_go rfl (by rfl) ?_
         go_wp2_with fail
         exact ⟨_, _, _, _, _, _, _, _, _, _, _, _, _, g, rfl, rfl, HF⟩
        ·
         have hnb := HNB.out
         refine AnyOrder.wpOp_go rfl (by rfl) ?_
         go_wp2_with fail
         exact ⟨_, _, _, _, _, _, _, _, _, _, _, _, _, g, rfl, rfl, HF⟩
        ·
         obtain ⟨q0, q1, q2, q3, q4, q5⟩ := node_first HCB.out HF.out.below
         refine AnyOrder.wpOp_go rfl (by rfl) ?_
         go_wp2_with fail
         exact ⟨_, _, _, _, _, _, _, _, _, _, _, _, _, g, rfl, rfl, HF⟩
        ·
         refine AnyOrder.wpOp_go rfl (by rfl) ?_
         go_wp2_with fail
         refine (HMC.out V).mono ?_
         rintro e V' ⟨rfl, hb⟩
         exact hK _ _ ⟨_, _, _, _, _, _, _, _, _, _, _, _, _, g, rfl, rfl, ⟨⟨HF.out.ord, za8 HF.out.below hb, RN.below' HF.out.r1 hb, fun h k => zab (HF.out.bz h k) hb, fun h => zab (HF.out.bx h) hb, HF.out.ge⟩⟩⟩
        ·
         obtain rfl : l11 = false := by cases l11 with | false => rfl | true => cases HF.out.ord rfl
         have hb1 := za2 (Below.refl _ V) boxZ
         refine AnyOrder.wpOp_go rfl (by rfl) ?_
         go_wp2_with fail
         exact ⟨_, _, _, _, _, _, _, _, _, _, _, _, _, V.heap.size, rfl, rfl, ⟨⟨fun h => (by cases h), za8 HF.out.below hb1, RN.below' HF.out.r1 hb1, fun _ _ => zaj _ _, fun h => (by cases h), fun _ => ⟨HF.out.below.size, fun q hq => Nat.ne_of_lt (RN.lt HF.out.r1 hq)⟩⟩⟩⟩
        ·
         refine AnyOrder.wpOp_go rfl (by rfl) ?_
         refine op_boxNode (.tmp 7) (.tmp 42) rfl rfl (HF.out.bz rfl rfl) z rfl rfl ?_
         intro W4 h1 h2
         exact hK _ _ ⟨_, _, _, _, _, _, _, _, _, _, _, _, _, g, rfl, rfl, ⟨⟨fun _ => rfl, HF.out.below.grown h2 HF.out.below.size (fun k e => by cases e; exact (HF.out.ge rfl).1), RN.keep HF.out.r1 (fun q hq => h2.block q (RN.lt HF.out.r1 hq) (fun e => (HF.out.ge rfl).2 q hq (Option.some.inj e))), fun _ h => (by cases h), fun _ => h1, HF.out.ge⟩⟩⟩
       case last =>
        rintro L ac V ⟨l0, l1, l2, l3, l4, l5, l6, l7, l8, l9, l10, l11, l12, g, rfl, rfl, HF⟩ hr
        obtain ⟨rfl, rfl, rfl, rfl, rfl, rfl, rfl, rfl, rfl, rfl, rfl, rfl, rfl, -⟩ := AnyOrder.alls rfl (by kernel_rfl) hr
        clear hr
        simp only [sel_true, selv_true]
        have HB := za0.mk HF.out.below
        have HO := za0.mk HF.out.r1
        have HBX := za0.mk (HF.out.bx rfl)
        have HGE := za0.mk (HF.out.ge rfl)
        clear HF HMC
        rcases HZ.out.2 with ⟨hm, he⟩ | ⟨hm, he⟩
        ·
         subst he
         have HJ : za0 ((joinOf la lb).map ((out ++ [z]) ++ ·) = joinOf l0 l1) := ⟨by
          rw [← HJ.out, HJC.out, hm, Option.bind_some, Option.map_map]
          congr 1
          funext r
          simp⟩
         clear HJC hm
         obtain ⟨A', c', hC', hc', hT'⟩ := HTA.out
         obtain ⟨B', d', hD', hd', hU'⟩ := HTB.out
         obtain ⟨na', Hna'⟩ : ∃ n, za0 (la.length = n) := ⟨_, ⟨rfl⟩⟩
         obtain ⟨nb', Hnb'⟩ : ∃ n, za0 (lb.length = n) := ⟨_, ⟨rfl⟩⟩
         rw [Hna'.out] at hC' hc' hT' HLA
         rw [Hnb'.out] at hD' hd' hU' HLA
         have HC' := za0.mk hC'
         have Hc' := za0.mk hc'
         have HTS := za0.mk hT'
         have HD' := za0.mk hD'
         have Hd' := za0.mk hd'
         have HTU := za0.mk hU'
         clear HTA HTB hC' hc' hT' hD' hd' hU'
         generalize V = V7 at *
         go_wp2_with fail
         refine AnyOrder.wp_region (by kernel_rfl) (jn9Inv w ada adb Ao A' B' na ca nb cb no co na' c' nb' d' g x y z out _ _ _ _ _ _ _ _ _ _ _ _ _ _ _ _ _ _ _ _ _ _ _ _ _ _ _ _ _ _ _ _ _ _ _ _ _ _ _ _ _ _ _ _ _ _ _ _ _ _ _ _ _ _ _ _ _ _ _ _ _ _ _ _ _ _ _ _ _ _ _ _ _ _ _ _) ⟨false, false, false, false, false, false, false, false, false, false, false, 0, undef, rfl, rfl, ⟨⟨fun h => (by cases h), fun h => (by cases h), fun h => (by cases h), fun h => (by cases h), za8 HB.out (za3 (Below.refl _ V7)), fun _ => RN.below' HO.out (za3 (Below.refl _ V7)), fun h _ => (by cases h), fun h => (by cases h), fun _ => zab HBX.out (za3 (Below.refl _ V7)), fun h => (by cases h)⟩⟩⟩ ?step ?last
         case step =>
          rintro L ac V i ⟨l0, l1, l2, l3, l4, l5, l6, l7, l8, l9, l10, g, v2, rfl, rfl, HF⟩ hi K hK
          rcases AnyOrder.up hi [0, 1, 2, 3, 4, 5, 6, 7, 8, 9, 10] rfl with rfl | rfl | rfl | rfl | rfl | rfl | rfl | rfl | rfl | rfl | rfl
          all_goals
           replace hi := AnyOrder.first hi rfl
           repeat (obtain ⟨ha, hi⟩ := hi; first | obtain rfl := ha | clear ha)
           clear hi
           try simp only [sel_true, selv_true] at hK ⊢
          ·
           obtain rfl : l8 = false := by cases l8 with | false => rfl | true => cases (HF.out.ord8 rfl).2
           (try simp only [selv_false] at hK ⊢)
           refine AnyOrder.wpOp_go rfl (by rfl) ?_
           go_wp2_with fail
           exact ⟨_, _, _, _, _, _, _, _, _, _, _, g, v2, rfl, rfl, ⟨⟨HF.out.ord5, fun h => (by cases h), HF.out.ord9, HF.out.ord10, HF.out.below, HF.out.r1, HF.out.bx, HF.out.r2, HF.out.kz, HF.out.ordB⟩⟩⟩
          ·
           obtain rfl : l2 = false := by cases l2 with | false => rfl | true => cases HF.out.ordB rfl
           obtain rfl : l3 = false := by cases l3 with | false => rfl | true => cases HF.out.ord5 rfl
           (try simp only [selv_false] at hK ⊢)
           obtain ⟨q0, q1, q2, q3, q4, q5⟩ := box_six (HF.out.kz rfl)
           refine AnyOrder.wpOp_go rfl (by rfl) ?_
           go_wp2_with fail
           exact ⟨_, _, _, _, _, _, _, _, _, _, _, g, v2, rfl, rfl, ⟨⟨HF.out.ord5, HF.out.ord8, HF.out.ord9, HF.out.ord10, HF.out.below, HF.out.r1, HF.out.bx, HF.out.r2, HF.out.kz, fun _ => rfl⟩⟩⟩
          ·
           obtain rfl : l3 = false := by cases l3 with | false => rfl | true => cases HF.out.ord5 rfl
           obtain rfl : l8 = false := by cases l8 with | false => rfl | true => cases (HF.out.ord8 rfl).1
           have hb1 := za2 (Below.refl _ V) (boxN z)
           (try simp only [selv_false] at hK ⊢)
           refine AnyOrder.wpOp_go rfl (by rfl) ?_
           go_wp2_with fail
           exact ⟨_, _, _, _, _, _, _, _, _, _, _, V.heap.size, v2, rfl, rfl, ⟨⟨fun h => (by cases h), fun h => (by cases h), HF.out.ord9, HF.out.ord10, za8 HF.out.below hb1, fun _ => RN.below' (HF.out.r1 rfl) hb1, fun _ _ => zaj _ _, fun h => (by cases h), fun _ => zab (HF.out.kz rfl) hb1, fun _ => rfl⟩⟩⟩
          ·
           obtain rfl : l8 = false := by cases l8 with | false => rfl | true => cases (HF.out.ord8 rfl).1
           have hr1 := HF.out.r1 rfl
           (try simp only [selv_false] at hK ⊢)
           refine AnyOrder.wpOp_go rfl (by rfl) ?_
           refine op_append_rows Tryz.underlying23 w.heap.size rfl (.tmp 47) (.tmp 49) rfl (.slice Ao no co) out [z] (some ⟨g, 0, none⟩) 1 1 rfl rfl hr1 (boxN_C (HF.out.bx rfl rfl)) HF.out.below.size (by have := HNO.out; have := HN.out; omega) ?_
           intro v3 W3 h1 h2 _
           exact hK _ _ ⟨_, _, _, _, _, _, _, _, _, _, _, g, v3, rfl, rfl, ⟨⟨fun _ => rfl, fun h => (by cases h), HF.out.ord9, HF.out.ord10, grown_below HF.out.below hr1 h2, fun h => (by cases h), fun _ => fun h => (by cases h), fun _ => h1, fun h => (by cases h), HF.out.ordB⟩⟩⟩
          ·
           obtain rfl : l9 = false := by cases l9 with | false => rfl | true => cases (HF.out.ord9 rfl).1
           (try simp only [selv_false] at hK ⊢)
           refine AnyOrder.wpOp_go rfl (by rfl) ?_
           go_wp2_with fail
           exact ⟨_, _, _, _, _, _, _, _, _, _, _, g, v2, rfl, rfl, ⟨⟨HF.out.ord5, HF.out.ord8, fun h => (by cases h), HF.out.ord10, HF.out.below, HF.out.r1, HF.out.bx, HF.out.r2, HF.out.kz, HF.out.ordB⟩⟩⟩
          ·
           refine AnyOrder.wpOp_go rfl (by rfl) ?_
           refine op_slice 23 (.tmp 51) (some (.const (.int .i64 1))) none rfl rfl rfl rfl (HTS.out V) ?_
           exact hK _ _ ⟨_, _, _, _, _, _, _, _, _, _, _, g, v2, rfl, rfl, HF⟩
          ·
           obtain rfl : l10 = false := by cases l10 with | false => rfl | true => cases HF.out.ord10 rfl
           (try simp only [selv_false] at hK ⊢)
           refine AnyOrder.wpOp_go rfl (by rfl) ?_
           go_wp2_with fail
           exact ⟨_, _, _, _, _, _, _, _, _, _, _, g, v2, rfl, rfl, ⟨⟨HF.out.ord5, HF.out.ord8, HF.out.ord9, fun h => (by cases h), HF.out.below, HF.out.r1, HF.out.bx, HF.out.r2, HF.out.kz, HF.out.ordB⟩⟩⟩
          ·
           refine AnyOrder.wpOp_go rfl (by rfl) ?_
           refine op_slice 23 (.tmp 53) (some (.const (.int .i64 1))) none rfl rfl rfl rfl (HTU.out V) ?_
           exact hK _ _ ⟨_, _, _, _, _, _, _, _, _, _, _, g, v2, rfl, rfl, HF⟩
          ·
           refine AnyOrder.wpOp_go rfl (by rfl) ?_
           go_wp2_with fail
           exact ⟨_, _, _, _, _, _, _, _, _, _, _, g, v2, rfl, rfl, ⟨⟨HF.out.ord5, fun _ => ⟨rfl, rfl⟩, HF.out.ord9, HF.out.ord10, HF.out.below, HF.out.r1, HF.out.bx, HF.out.r2, HF.out.kz, HF.out.ordB⟩⟩⟩
          ·
           refine AnyOrder.wpOp_go rfl (by rfl) ?_
           go_wp2_with fail
           exact ⟨_, _, _, _, _, _, _, _, _, _, _, g, v2, rfl, rfl, ⟨⟨HF.out.ord5, HF.out.ord8, fun _ => ⟨rfl, rfl⟩, HF.out.ord10, HF.out.below, HF.out.r1, HF.out.bx, HF.out.r2, HF.out.kz, HF.out.ordB⟩⟩⟩
          ·
           refine AnyOrder.wpOp_go rfl (by rfl) ?_
           go_wp2_with fail
           exact ⟨_, _, _, _, _, _, _, _, _, _, _, g, v2, rfl, rfl, ⟨⟨HF.out.ord5, HF.out.ord8, HF.out.ord9, fun _ => rfl, HF.out.below, HF.out.r1, HF.out.bx, HF.out.r2, HF.out.kz, HF.out.ordB⟩⟩⟩
         case last =>
          rintro L ac V ⟨l0, l1, l2, l3, l4, l5, l6, l7, l8, l9, l10, g, v2, rfl, rfl, HF⟩ hr
          obtain ⟨rfl, rfl, rfl, rfl, rfl, rfl, rfl, rfl, rfl, rfl, rfl, -⟩ := AnyOrder.alls rfl (by kernel_rfl) hr
          clear hr
          simp only [sel_true, selv_true]
          have HO := za0.mk (HF.out.r2 rfl)
          have HB := za0.mk HF.out.below
          obtain ⟨A3, c3, rfl⟩ := RN.slice HO.out
          have HL3 : za0 ((out ++ [z]).length = no + 1) := ⟨by rw [List.length_append, HNO.out]; rfl⟩
          rw [HL3.out] at HO ⊢
          clear HF
          go_wp2
          go_roundw
          case rel => exact ⟨la, lb, out ++ [z], A', B', A3, na', nb', no + 1, c', d', c3, rfl, rfl, rfl, ⟨Hna'.out, Hnb'.out, Hc'.out, Hd'.out, by have := HN.out; have := HLA.out; omega⟩, HC', HD', HO, ⟨fun z hz => HOK.out.1 z (List.mem_cons_of_mem _ hz), fun z hz => HOK.out.2 z (List.mem_cons_of_mem _ hz)⟩, HJ, HB⟩
          case measure => have := HLA.out; simp only [lenV]; omega
        ·
         subst he
         have HJN : za0 (joinOf l0 l1 = none) := ⟨by rw [← HJ.out, HJC.out, hm]; rfl⟩
         go_wp2
         go_ret2
         have hfin := HRJ.out
         rw [HJN.out] at hfin
         cases hfin
         exact ⟨_, rfl, Kd.R_nil _ _ _ _ _, HB.out⟩
end
section
theorem at_bk (l : List Node) (d : Dot) : MapLaw.mget (atOf (bk l)) d = idxN l 0 d := by
 have hb : atOf (bk l) = (l.zipIdx.map fun p => (p.2, p.1)).foldr (fun p m => MapLaw.mset m p.2.f0 p.1) [] := by
  exact List.foldl_reverse
 rw [hb]
 clear hb
 generalize (0 : Nat) = n
 induction l generalizing n with
 | nil => rfl
 | cons x l ih =>
  rw [List.zipIdx_cons, List.map_cons, List.foldr_cons, MapLaw.mget_mset, ih, idxN]
/-- A node that stands: on the root, or on an older node that stands. -/
inductive Stand (l : List Node) : Node → Prop
 | root (x : Node) (hx : x ∈ l) (hr : dotRoot x.f1 = true) : Stand l x
 | up (x p : Node) (hx : x ∈ l) (hp : Stand l p) (hd : p.f0 = x.f1) (ht : p.f2 < x.f2) : Stand l x
theorem Stand.mem {l : List Node} {x : Node} (h : Stand l x) : x ∈ l := by cases h <;> assumption
/-- A node of an allowed list has no flaw just where it stands on the root, or on an older node. -/
theorem flaw_zero {l : List Node} (hok : ∀ x ∈ l, nodeOk x = true) (hinc : Inc l) {i : Nat} {x : Node} (hx : l[i]? = some x) :
  flawOf l (atOf (bk l)) i = 0 ↔ (dotRoot x.f1 = true ∨ ∃ p ∈ l, p.f0 = x.f1 ∧ p.f2 < x.f2) := by
 rw [flawOf_at hx]
 have hm := List.mem_of_getElem? hx
 have hi := (List.getElem?_eq_some_iff.1 hx).1
 rw [if_neg (by rw [hok x hm]; simp)]
 have hstep : 0 < i → ∃ hp : i - 1 < l.length, dotLt l[i - 1].f0 x.f0 = true := fun h0 => by
  have hp : i - 1 < l.length := by omega
  refine ⟨hp, ?_⟩
  have := List.pairwise_iff_getElem.1 hinc (i - 1) i hp hi (by omega)
  rwa [(List.getElem?_eq_some_iff.1 hx).2] at this
 by_cases h0 : 0 < i
 obtain ⟨hp, hlt⟩ := hstep h0
 simp only [List.getElem?_eq_getElem hp, hlt, h0, true_and, Bool.true_eq_false, if_false]
 clear hp hlt
 rotate_left
 simp only [h0, false_and, if_false]
 all_goals
  clear hstep h0
  by_cases hr : dotRoot x.f1 = true
  ·
   simp [hr]
  ·
   rw [if_neg hr, at_bk]
   cases hn : idxN l 0 x.f1 with
   | none =>
    simp only []
    constructor
    ·
     intro h; cases h
    ·
     rintro (h | ⟨p, hp, e, _⟩)
     ·
      exact absurd h hr
     ·
      exact absurd e (idxN_none hn p hp)
   | some k =>
    obtain ⟨p, hp, e⟩ := idxN_some hn
    simp only [Nat.sub_zero] at hp
    simp only [hp]
    constructor
    ·
     intro h
     refine .inr ⟨p, List.mem_of_getElem? hp, e, ?_⟩
     by_cases ht : x.f2 ≤ p.f2
     ·
      simp [ht] at h
     ·
      omega
    ·
     rintro (h | ⟨q, hq, e', ht⟩)
     ·
      exact absurd h hr
     ·
      obtain ⟨j, hj⟩ := List.getElem?_of_mem hq
      have := inc_unique hinc hj hp (e'.trans e.symm)
      subst this
      rw [hp] at hj; cases hj
      rw [if_neg (by simp; omega)]
theorem stand_flaw {l : List Node} (hok : ∀ x ∈ l, nodeOk x = true) (hinc : Inc l) {i : Nat} {x : Node} (hx : l[i]? = some x) (h : Stand l x) : flawOf l (atOf (bk l)) i = 0 := by
 refine (flaw_zero hok hinc hx).2 ?_
 cases h with
 | root _ _ hr => exact .inl hr
 | up _ p _ hp hd ht => exact .inr ⟨p, hp.mem, hd, ht⟩
theorem faults_none {l : List Node} (h : faultsOf l = []) : ∀ i, i < l.length → flawOf l (atOf (bk l)) i = 0 := by
 have : ∀ k, faultsUpto l (atOf (bk l)) k = [] → ∀ i, i < k → flawOf l (atOf (bk l)) i = 0 := by
  intro k
  induction k with
  | zero => intro _ i hi; omega
  | succ k ih =>
   intro hk i hi
   rw [faultsUpto_succ] at hk
   obtain ⟨h1, h2⟩ := List.append_eq_nil_iff.1 hk
   rcases Nat.lt_succ_iff_lt_or_eq.1 hi with hi | rfl
   ·
    exact ih h1 i hi
   ·
    by_cases hf : flawOf l (atOf (bk l)) i = 0
    ·
     exact hf
    ·
     rw [if_neg hf] at h2; cases h2
 exact this l.length h
theorem incB_adj : ∀ {ds : List Dot}, (∀ i a b, ds[i]? = some a → ds[i + 1]? = some b → dotLt a b = true) → incB ds = true
 | [], _ => rfl
 | [_], _ => rfl
 | a :: b :: r, h => by
  simp only [incB, Bool.and_eq_true]
  exact ⟨h 0 a b rfl rfl, incB_adj fun i x y hx hy => h (i + 1) x y (by simpa using hx) (by simpa using hy)⟩
theorem well_flaws {l : List Node} (h : faultsOf l = []) {i : Nat} {x : Node} (hx : l[i]? = some x) : nodeOk x = true ∧ ¬ (0 < i ∧ (match l[i - 1]? with | some p => dotLt p.f0 x.f0 | none => true) = false) := by
 have hz := faults_none h i (List.getElem?_eq_some_iff.1 hx).1
 rw [flawOf_at hx] at hz
 have h1 : nodeOk x = true := by
  cases hn : nodeOk x with
  | true => rfl
  | false => rw [if_pos hn] at hz; cases hz
 refine ⟨h1, fun hc => ?_⟩
 rw [if_neg (by rw [h1]; decide)] at hz
 cases hp : l[i - 1]? with
 | none =>
  simp only [hp] at hc
  exact absurd hc.2 (by decide)
 | some p =>
  simp only [hp] at hc hz
  rw [if_pos hc] at hz
  cases hz
theorem well_store {l : List Node} (h : faultsOf l = []) : storeOk l = true := by
 unfold storeOk
 rw [Bool.and_eq_true, List.all_eq_true]
 constructor
 ·
  intro x hx
  obtain ⟨i, hi⟩ := List.getElem?_of_mem hx
  exact (well_flaws h hi).1
 ·
  refine incB_adj fun i a b ha hb => ?_
  rw [List.getElem?_map, Option.map_eq_some_iff] at ha hb
  obtain ⟨x, hx, rfl⟩ := ha
  obtain ⟨y, hy, rfl⟩ := hb
  have h2 := (well_flaws h hy).2
  rw [Nat.add_sub_cancel, hx] at h2
  cases hd : dotLt x.f0 y.f0 with
  | true => rfl
  | false => exact absurd ⟨Nat.succ_pos i, hd⟩ h2
theorem stand_path {l : List Node} {x : Node} (h : Stand l x) : ∃ U, Path l x.f0 (x :: U) := by
 induction h with
 | root x hx hr => exact ⟨[], Path.step ⟨0, 0⟩ [] x Path.root hx (dotRoot_iff.1 hr)⟩
 | up x p hx _ hd _ ih =>
  obtain ⟨U, hU⟩ := ih
  exact ⟨p :: U, Path.step p.f0 (p :: U) x hU hx hd.symm⟩
theorem faultsUpto_nil {l : List Node} {m : List (Dot × Nat)} : ∀ {k : Nat}, (∀ i, i < k → flawOf l m i = 0) → faultsUpto l m k = []
 | 0, _ => rfl
 | k + 1, h => by rw [faultsUpto_succ, faultsUpto_nil fun i hi => h i (by omega), if_pos (h k (by omega))]; rfl
theorem well_yes {l : List Node} (hl : l.length ≤ 1000000) (h : faultsOf l = []) : shape_Well.f l = some true := by
 unfold shape_Well.f shape_Faults.f
 rw [if_pos hl, h]
 rfl
theorem well_no {l : List Node} (hl : l.length ≤ 1000000) (h : ¬ faultsOf l = []) : shape_Well.f l = some false := by
 unfold shape_Well.f shape_Faults.f
 rw [if_pos hl]
 have : 0 < (faultsOf l).length := List.length_pos_iff.2 h
 simp only [Option.bind_some]
 rw [show (((faultsOf l).length : Int) == 0) = false from beq_eq_false_iff_ne.2 (by omega)]
end
section
def nodesM (l : List Node) : List (Dot × Node) := l.foldl (fun m x => MapLaw.mset m x.f0 x) []
theorem nodesM_succ {l : List Node} {k : Nat} {x : Node} (h : l[k]? = some x) : nodesM (l.take (k + 1)) = MapLaw.mset (nodesM (l.take k)) x.f0 x := by
 obtain ⟨hk, e⟩ := List.getElem?_eq_some_iff.1 h
 unfold nodesM
 rw [List.take_succ_eq_append_getElem hk, List.foldl_append, e]
 rfl
set_option maxHeartbeats 2000000 in
set_option maxRecDepth 100000 in
theorem nodes_call (A0 : Option Addr) (n c0 : Nat) (l : List Node) (w : World) (hr0 : Kd.C k42 w A0 n l) (hn : l.length = n) (hl : n ≤ 1000000) :
  Calls Tryz.prog 38 #[.slice A0 n c0] w fun e w' => ∃ g : Nat, e = .returned (.map (some g)) ∧ w.heap.size ≤ g ∧ MapLaw.MapIs vDot vNode w' g (nodesM l) ∧ Below w.heap.size w w' := by
 have HR := za0.mk hr0
 have Hn := za0.mk hn
 have HL := za0.mk hl
 have hu := Tryz.underlying42
 have hu2 := Tryz.underlying39
 have hmm := @run_makeMap Tryz.prog
 have HM0 := za0.mk (MapLaw.MapIs.new (enc := vDot) (val := vNode) w)
 have HB0 := za0.mk (za2 (Below.refl _ w) (.map #[] 0))
 obtain ⟨g, Hg⟩ : ∃ g, za0 (w.heap.size = g) := ⟨_, ⟨rfl⟩⟩
 rw [Hg.out] at HM0
 clear hr0 hn
 go_enter Tryz.func38, Tryz.ntmps38
 go_wp2
 rw [Hg.out]
 go_loopw [9] (fun i wr => ∃ k : Nat, i = .int .i64 k ∧ k ≤ n ∧ za0 (MapLaw.MapIs vDot vNode wr g (nodesM (l.take k))) ∧ za0 (Below w.heap.size w wr)) (fun i _ => n - (intOf i).toNat)
 case atStart => exact ⟨0, rfl, Nat.zero_le _, HM0, HB0⟩
 case round =>
  obtain ⟨k, rfl, hk, HM, HB⟩ := hrel
  by_cases hlt : k < n
  ·
   obtain ⟨x, Hx⟩ : ∃ x, za0 (l[k]? = some x) := ⟨_, ⟨List.getElem?_eq_getElem (by rw [Hn.out]; exact hlt)⟩⟩
   have HST := za0.mk (nodesM_succ Hx.out)
   obtain ⟨ad, e, y0, y1, y2, y3, y4, y5⟩ := node_at HR.out HB.out k x Hx.out
   subst e
   have hkn : k < n ∧ n ≤ 1000000 := ⟨hlt, HL.out⟩
   go_upto_region 5 with (fail)
   have hb0 := za2 (Below.refl wr.heap.size wr) (boxN x)
   have HX := za0.mk (zaj wr (boxN x))
   have HM := za0.mk (HM.out.below hb0)
   have HB := za0.mk (za8 HB.out hb0)
   clear y0 y1 y2 y3 y4 y5 hb0 hkn
   generalize wr.alloc (boxN x) = V1 at *
   generalize wr.heap.size = gx at *
   obtain ⟨x0, x1, x2, x3, x4, x5⟩ := box_six HX.out
   go_upto_region 6 with (at_mapUpdate; refine MapLaw.wpList_update rfl _ _ _ _ rfl dotKey Tryz.underlying76 x.f0 x rfl rfl rfl HM.out ?_; intro W5 hM5 hg5)
   have HM : za0 (MapLaw.MapIs vDot vNode W5 g (nodesM (l.take (k + 1)))) := ⟨by rw [HST.out]; exact hM5⟩
   have HB := za0.mk (HB.out.grown hg5 HB.out.size (fun q e => by have := Option.some.inj e; have := Hg.out; omega))
   clear x0 x1 x2 x3 x4 x5 hM5 hg5
   have hkn : k < n ∧ n ≤ 1000000 := ⟨hlt, HL.out⟩
   go_wp2
   go_roundw
   case rel => exact ⟨k + 1, by go_num, by omega, HM, HB⟩
   case measure => simp [intOf]; omega
  obtain rfl : k = n := by omega
  rw [List.take_of_length_le (Nat.le_of_eq Hn.out)] at HM
  go_wp2
  go_ret
  exact ⟨g, rfl, Nat.le_of_eq Hg.out, HM.out, HB.out⟩
end
end Go.Proofs.YtefejajofmpjdaaGreat.PWalk
end
