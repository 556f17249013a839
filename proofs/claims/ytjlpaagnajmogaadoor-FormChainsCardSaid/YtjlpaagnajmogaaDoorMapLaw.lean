/-
  Maps that a call keeps for itself, told as a list of keys with values: what a look-up, a store, len and a step of a range do to it. Any program, any kind of keys whose '==' is known.
-/
import Derived.WalkKit
import Derived.Tactics
import Derived.Laws.AppendOwn
import Derived.Maps.OwnIn
namespace Go.MapLaw
open Go.Instr
set_option linter.unusedSimpArgs false

/-- What is asked of keys: they may be keys, and '==' on them is '='. -/
structure MKey {κ : Type} [DecidableEq κ] (P : Program) (K : TypeId) (enc : κ → Value) : Prop where
  check : ∀ (b : Bool) (x : κ) (w : World), (checkKey b 10000 K (enc x)).run P w = .ok () w
  equal : ∀ (x y : κ) (w : World), (Op.equal K (enc x) (enc y)).run P w = .ok (decide (x = y)) w
  desc : ∃ d, P.underlying K = some d ∧ ((∀ x y, sameNow d (enc x) (enc y) = none) ∨ ∀ x y, sameNow d (enc x) (enc y) = some (decide (x = y)))
  bits : ∀ x, sameBits 10000 (enc x) (enc x) = true

section
variable {κ β : Type} [DecidableEq κ]
def mfind (k : κ) : List (κ × β) → Nat → Option (Nat × β)
  | [], _ => none
  | p :: r, i => if k = p.1 then some (i, p.2) else mfind k r (i + 1)
def mget (m : List (κ × β)) (k : κ) : Option β := (mfind k m 0).map (·.2)
/-- The map with k set to v: where k stands, or at the end. -/
def mset (m : List (κ × β)) (k : κ) (v : β) : List (κ × β) :=
  match m with
  | [] => [(k, v)]
  | p :: r => if k = p.1 then (k, v) :: r else p :: mset r k v

theorem mfind_shift (k : κ) : ∀ (m : List (κ × β)) (i : Nat), mfind k m (i + 1) = (mfind k m i).map (fun q => (q.1 + 1, q.2))
  | [], _ => rfl
  | p :: r, i => by
    unfold mfind
    split
    · rfl
    · rw [mfind_shift k r (i + 1)]
theorem mget_nil (k : κ) : mget ([] : List (κ × β)) k = none := rfl
theorem mget_cons (p : κ × β) (r : List (κ × β)) (k : κ) : mget (p :: r) k = if k = p.1 then some p.2 else mget r k := by
  unfold mget
  rw [mfind]
  split
  · rfl
  · rw [mfind_shift]; simp [Option.map_map, Function.comp_def]
theorem mget_mset (m : List (κ × β)) (k : κ) (v : β) (x : κ) : mget (mset m k v) x = if x = k then some v else mget m x := by
  induction m with
  | nil => rw [mset, mget_cons, mget_nil]
  | cons p r ih =>
    rw [mset]
    split
    · rename_i h
      rw [mget_cons, mget_cons]
      subst h
      split <;> rfl
    · rename_i h
      rw [mget_cons, mget_cons, ih]
      split
      · rename_i hx; subst hx; rw [if_neg (fun e => h e.symm)]
      · rfl
theorem mget_none_iff (m : List (κ × β)) (k : κ) : mget m k = none ↔ k ∉ m.map (·.1) := by
  induction m with
  | nil => simp [mget_nil]
  | cons p r ih =>
    rw [mget_cons]
    split
    · rename_i h; simp [h]
    · rename_i h; rw [ih]; simp [h]
theorem mset_keys (m : List (κ × β)) (k : κ) (v : β) : (mset m k v).map (·.1) = if k ∈ m.map (·.1) then m.map (·.1) else m.map (·.1) ++ [k] := by
  induction m with
  | nil => simp [mset]
  | cons p r ih =>
    rw [mset]
    split
    · rename_i h; simp [h]
    · rename_i h
      rw [List.map_cons, ih]
      by_cases hr : k ∈ r.map (·.1)
      · rw [if_pos hr, if_pos (by simp [hr])]; simp
      · rw [if_neg hr, if_neg (by rw [List.map_cons, List.mem_cons]; exact fun e => e.elim h hr)]; simp
theorem mset_nodup {m : List (κ × β)} (h : (m.map (·.1)).Nodup) (k : κ) (v : β) : ((mset m k v).map (·.1)).Nodup := by
  rw [mset_keys]
  split
  · exact h
  · rename_i hk
    rw [List.nodup_append]
    exact ⟨h, by simp, fun a ha b hb e => by simp at hb; subst hb; subst e; exact hk ha⟩
theorem mset_length_le (m : List (κ × β)) (k : κ) (v : β) : (mset m k v).length ≤ m.length + 1 := by
  induction m with
  | nil => simp [mset]
  | cons p r ih => rw [mset]; split <;> simp <;> omega
end

/-- Block b is a map of the keys and values m, in the order in which the keys came. -/
def MapIs {κ β : Type} (enc : κ → Value) (val : β → Value) (w : World) (b : Nat) (m : List (κ × β)) : Prop :=
  ∃ es clock, w.heap[b]? = some (.map es clock) ∧ es.toList.map (fun e => (e.key, e.val)) = m.map (fun p => (enc p.1, val p.2)) ∧ (∀ e ∈ es.toList, e.born < clock) ∧ es.toList.Pairwise (fun x y => x.born < y.born)

section
variable {κ β : Type} {P : Program} {K : TypeId} {enc : κ → Value} {val : β → Value} {w w' : World} {b : Nat} {m : List (κ × β)}

theorem MapIs.same (h : MapIs enc val w b m) (hw : w'.heap[b]? = w.heap[b]?) : MapIs enc val w' b m := by
  obtain ⟨es, c, h1, h2, h3⟩ := h
  exact ⟨es, c, hw.trans h1, h2, h3⟩
theorem MapIs.lt (h : MapIs enc val w b m) : b < w.heap.size := by
  obtain ⟨es, c, h1, _⟩ := h
  exact (Array.getElem?_eq_some_iff.1 h1).1
theorem MapIs.below (h : MapIs enc val w b m) (hb : RowKit.Below w.heap.size w w') : MapIs enc val w' b m := h.same (hb.block _ h.lt)
theorem MapIs.new (w : World) : MapIs enc val (w.alloc (.map #[] 0)) w.heap.size ([] : List (κ × β)) :=
  ⟨#[], 0, by show (w.heap.push _)[w.heap.size]? = _; simp, by simp, by simp, by simp⟩
theorem findNow_none (d : TypeDesc) (hd : ∀ x y, sameNow d (enc x) (enc y) = none) (k : κ) (e : MapEntry) (es : List MapEntry) (x : κ) (hx : e.key = enc x) (i : Nat) : findNow d (enc k) (e :: es) i = none := by
  rw [findNow, hx, hd]
variable [DecidableEq κ]

theorem findNow_some (d : TypeDesc) (hd : ∀ x y, sameNow d (enc x) (enc y) = some (decide (x = y))) (k : κ) : ∀ (es : List MapEntry) (m : List (κ × β)) (i : Nat), es.map (fun e => (e.key, e.val)) = m.map (fun p => (enc p.1, val p.2)) →
    findNow d (enc k) es i = some ((mfind k m i).map (fun q => (q.1, val q.2)))
  | [], [], i, _ => rfl
  | [], _ :: _, _, h => by simp at h
  | _ :: _, [], _, h => by simp at h
  | e :: es, p :: m, i, h => by
    simp only [List.map_cons, List.cons.injEq, Prod.mk.injEq] at h
    obtain ⟨⟨h1, h2⟩, h3⟩ := h
    rw [findNow, mfind, h1, hd]
    by_cases hk : k = p.1
    · simp [hk, h2]
    · simp [hk, findNow_some d hd k es m (i + 1) h3]
theorem findAsking_run (L : MKey P K enc) (k : κ) : ∀ (es : List MapEntry) (m : List (κ × β)) (i : Nat), es.map (fun e => (e.key, e.val)) = m.map (fun p => (enc p.1, val p.2)) →
    (findAsking K (enc k) es i).run P w = .ok ((mfind k m i).map (fun q => (q.1, val q.2))) w
  | [], [], i, _ => rfl
  | [], _ :: _, _, h => by simp at h
  | _ :: _, [], _, h => by simp at h
  | e :: es, p :: m, i, h => by
    simp only [List.map_cons, List.cons.injEq, Prod.mk.injEq] at h
    obtain ⟨⟨h1, h2⟩, h3⟩ := h
    rw [findAsking, mfind, h1]
    by_cases hk : k = p.1
    · simp [L.equal, hk, h2]
    · simp [L.equal, hk, findAsking_run L k es m (i + 1) h3]
theorem findKey_run (L : MKey P K enc) (k : κ) (es : List MapEntry) (m : List (κ × β)) (h : es.map (fun e => (e.key, e.val)) = m.map (fun p => (enc p.1, val p.2))) :
    (findKey K (enc k) es).run P w = .ok ((mfind k m 0).map (fun q => (q.1, val q.2))) w := by
  obtain ⟨d, hd, hs⟩ := L.desc
  unfold findKey
  rcases hs with hs | hs
  · cases es with
    | nil =>
      cases m with
      | nil => simp [run_underlying hd, findNow, mfind]
      | cons p m => simp at h
    | cons e es =>
      cases m with
      | nil => simp at h
      | cons p m =>
        have hx : e.key = enc p.1 := by simp at h; exact h.1.1
        have hn := findNow_none (d := d) hs k e es p.1 hx 0
        simp [run_underlying hd, hn, findAsking_run (w := w) L k (e :: es) (p :: m) 0 h]
  · simp [run_underlying hd, findNow_some (val := val) d hs k es m 0 h]

/-- 'm[k]', with or without ok. -/
theorem run_lookup (L : MKey P K enc) {T E : TypeId} (hT : P.underlying T = some (.map K E)) {z : Value} (hz : ∀ w, (zeroValue E).run P w = .ok z w) (h : MapIs enc val w b m) (k : κ) (ok : Bool) :
    (lookup T (.map (some b)) (enc k) ok).run P w = .ok (if ok then .tuple #[((mget m k).map val).getD z, .bool (mget m k).isSome] else ((mget m k).map val).getD z) w := by
  obtain ⟨es, c, h1, h2, h3⟩ := h
  have hf := findKey_run (w := w) (val := val) L k es.toList m h2
  unfold lookup mget
  cases hm : mfind k m 0 with
  | none =>
    rw [hm] at hf
    cases ok <;> simp [run_underlying hT, getObj, Sem.run, h1, L.check, hf, hz]
  | some q =>
    rw [hm] at hf
    cases ok <;> simp [run_underlying hT, getObj, Sem.run, h1, L.check, hf, hz]
theorem run_lookup_nil (L : MKey P K enc) {T E : TypeId} (hT : P.underlying T = some (.map K E)) {z : Value} (hz : ∀ w, (zeroValue E).run P w = .ok z w) (k : κ) (ok : Bool) :
    (lookup T (.map none) (enc k) ok).run P w = .ok (if ok then .tuple #[z, .bool false] else z) w := by
  have hf := findKey_run (w := w) (val := fun v : Value => v) L k [] [] rfl
  unfold lookup
  cases ok <;> simp_all [run_underlying hT, L.check, hz, mfind]

theorem mfind_lt (k : κ) : ∀ (m : List (κ × β)) (i j : Nat) (v : β), mfind k m i = some (j, v) → i ≤ j ∧ j < i + m.length ∧ m[j - i]? = some (k, v) ∧ mset m k = fun u => m.set (j - i) (k, u)
  | [], i, j, v, h => by simp [mfind] at h
  | p :: r, i, j, v, h => by
    rw [mfind] at h
    split at h
    · rename_i hk
      simp at h
      obtain ⟨rfl, rfl⟩ := h
      refine ⟨Nat.le_refl _, by simp, by simp [hk], ?_⟩
      funext u
      rw [mset, if_pos hk]; simp
    · rename_i hk
      obtain ⟨h1, h2, h3, h4⟩ := mfind_lt k r (i + 1) j v h
      refine ⟨by omega, by simp; omega, ?_, ?_⟩
      · rw [show j - i = (j - (i + 1)) + 1 from by omega]; simpa using h3
      · funext u
        rw [mset, if_neg hk, h4, show j - i = (j - (i + 1)) + 1 from by omega]; simp
theorem mfind_none (k : κ) : ∀ (m : List (κ × β)) (i : Nat), mfind k m i = none → mset m k = fun u => m ++ [(k, u)]
  | [], _, _ => rfl
  | p :: r, i, h => by
    rw [mfind] at h
    split at h
    · simp at h
    · rename_i hk
      funext u
      rw [mset, if_neg hk, mfind_none k r (i + 1) h]; simp

/-- 'm[k] = v'. -/
theorem run_update (L : MKey P K enc) {T E : TypeId} (hT : P.underlying T = some (.map K E)) (h : MapIs enc val w b m) (k : κ) (v : β) :
    ∃ w', (mapUpdate T (.map (some b)) (enc k) (val v)).run P w = .ok () w' ∧ MapIs enc val w' b (mset m k v) ∧ w.grownBy w' (some b) := by
  obtain ⟨es, c, h1, h2, h3, h4⟩ := h
  have hb : b < w.heap.size := (Array.getElem?_eq_some_iff.1 h1).1
  have hf := findKey_run (w := w) (val := val) L k es.toList m h2
  have hget : ∀ o : Obj, (w.heap.setIfInBounds b o)[b]? = some o := fun o => by simp [hb]
  have hgrow : ∀ o : Obj, w.grownBy { w with heap := w.heap.setIfInBounds b o } (some b) := fun o => ⟨rfl, rfl, rfl, by simp, fun i hi hne => by
    have : b ≠ i := fun e => hne (by rw [e])
    simp [Array.getElem?_setIfInBounds, this]⟩
  have hlen : es.toList.length = m.length := by have := congrArg List.length h2; simpa using this
  cases hm : mfind k m 0 with
  | none =>
    rw [hm] at hf
    refine ⟨{ w with heap := w.heap.setIfInBounds b (.map (es.push { key := enc k, val := val v, born := c }) (c + 1)) }, ?_, ⟨_, _, hget _, ?_, ?_, ?_⟩, hgrow _⟩
    · unfold mapUpdate
      simp [run_underlying hT, getObj, setObj, Sem.run, h1, L.check, hf]
    · rw [mfind_none k m 0 hm, Array.toList_push, List.map_append, List.map_append, h2]; rfl
    · intro e he
      rw [Array.toList_push, List.mem_append] at he
      rcases he with he | he
      · have := h3 e he; omega
      · simp at he; subst he; simp
    · rw [Array.toList_push, List.pairwise_append]
      exact ⟨h4, by simp, fun x hx y hy => by simp at hy; subst hy; exact h3 x hx⟩
  | some q =>
    obtain ⟨j, u⟩ := q
    rw [hm] at hf
    obtain ⟨_, q2, q3, q4⟩ := mfind_lt k m 0 j u hm
    simp only [Nat.sub_zero, Nat.zero_add] at q2 q3 q4
    have hj : j < es.toList.length := by omega
    have hkey : es.toList[j].key = enc k := by
      have e1 : (es.toList.map (fun e => (e.key, e.val)))[j]? = some (enc k, val u) := by rw [h2, List.getElem?_map, q3]; rfl
      rw [List.getElem?_map, List.getElem?_eq_getElem hj] at e1
      simp at e1
      simpa using e1.1
    have hkey' : ((es[j]?).map (·.key)).getD (enc k) = enc k := by
      have : es[j]? = some es.toList[j] := by rw [← Array.getElem?_toList, List.getElem?_eq_getElem hj]
      rw [this]; exact hkey
    have htl : (es.modify j fun e => { e with key := enc k, val := val v }).toList = es.toList.modify j (fun e => { e with key := enc k, val := val v }) := by simp
    refine ⟨{ w with heap := w.heap.setIfInBounds b (.map (es.modify j fun e => { e with key := enc k, val := val v }) c) }, ?_, ⟨_, _, hget _, ?_, ?_, ?_⟩, hgrow _⟩
    · unfold mapUpdate
      have hst : (keyThatStays (enc k) (enc k)).run P w = .ok (enc k) w := by unfold keyThatStays; rw [L.bits]; rfl
      simp [run_underlying hT, getObj, setObj, Sem.run, h1, L.check, hf, hkey', hst]
    · rw [htl, q4]
      apply List.ext_getElem?
      intro i
      rw [List.getElem?_map, List.getElem?_modify, List.getElem?_map, List.getElem?_set]
      by_cases hi : j = i
      · subst hi
        simp [q2, List.getElem?_eq_getElem hj]
      · have := congrArg (·[i]?) h2
        simp only [List.getElem?_map] at this
        simp only [if_neg hi]
        rw [← this]; simp
    · rw [htl]
      intro e he
      obtain ⟨i, hi⟩ := List.getElem?_of_mem he
      rw [List.getElem?_modify] at hi
      cases hg : es.toList[i]? with
      | none => rw [hg] at hi; simp at hi
      | some e0 =>
        rw [hg] at hi
        have h0 := h3 e0 (List.mem_of_getElem? hg)
        split at hi <;> simp at hi <;> subst hi <;> exact h0
    · rw [htl, List.pairwise_iff_getElem]
      intro i1 i2 hi1 hi2 hlt
      rw [List.pairwise_iff_getElem] at h4
      have := h4 i1 i2 (by simpa using hi1) (by simpa using hi2) hlt
      simp only [List.getElem_modify]
      split <;> split <;> exact this
end

section
variable {κ β : Type} [DecidableEq κ] {P : Program} {K : TypeId} {enc : κ → Value} {val : β → Value} {b : Nat} {m : List (κ × β)} {ops : Array Oper} {rest : List Oper} {o : Oper} {a : Act} {Q : Exit → Act → World → Prop}
/-- The look-up as an operation of a walk. -/
theorem wpList_lookup {w : World} (hg : o.guard = none) (T : TypeId) (x ix : Operand) (ok : Bool) (hop : o.op = .lookup T x ix ok) (L : MKey P K enc) {E : TypeId} (hT : P.underlying T = some (.map K E)) {z : Value} (hz : ∀ w, (zeroValue E).run P w = .ok z w)
    (k : κ) (hx : a.eval x = .map (some b)) (hix : a.eval ix = enc k) (h : MapIs enc val w b m) {v : Value} {is : Bool} (hv : ((mget m k).map val).getD z = v) (his : (mget m k).isSome = is)
    (hK : wpList P ops Q rest (a.put o.dst (if ok then .tuple #[v, .bool is] else v)) w) :
    wpList P ops Q (o :: rest) a w := by
  subst hv
  subst his
  refine wpList_plain hg fun K' hK' => ?_
  unfold Oper.wp
  simp [execOp, hop, hx, hix, run_lookup L hT hz h k ok, Result.andThen]
  exact hK' _ _ hK
/-- The store as an operation of a walk. -/
theorem wpList_update {w : World} (hg : o.guard = none) (T : TypeId) (x ix y : Operand) (hop : o.op = .mapUpdate T x ix y) (L : MKey P K enc) {E : TypeId} (hT : P.underlying T = some (.map K E))
    (k : κ) (v : β) (hx : a.eval x = .map (some b)) (hix : a.eval ix = enc k) (hy : a.eval y = val v) (h : MapIs enc val w b m)
    (hK : ∀ w', MapIs enc val w' b (mset m k v) → w.grownBy w' (some b) → wpList P ops Q rest (a.put o.dst undef) w') :
    wpList P ops Q (o :: rest) a w := by
  refine wpList_plain hg fun K' hK' => ?_
  obtain ⟨w', hrun, h1, h2⟩ := run_update L hT h k v
  unfold Oper.wp
  simp [execOp, hop, hx, hix, hy, hrun, Result.andThen]
  exact hK' _ _ (hK w' h1 h2)
/-- The same within a round of a range over a function. -/
theorem wpListIn_lookup {F : Fence} {nF : Nat} {w : World} (hg : o.guard = none) (T : TypeId) (x ix : Operand) (ok : Bool) (hop : o.op = .lookup T x ix ok) (L : MKey P K enc) {E : TypeId} (hT : P.underlying T = some (.map K E)) {z : Value} (hz : ∀ w, (zeroValue E).run P w = .ok z w)
    (k : κ) (hx : a.eval x = .map (some b)) (hix : a.eval ix = enc k) (h : MapIs enc val w b m) {v : Value} {is : Bool} (hv : ((mget m k).map val).getD z = v) (his : (mget m k).isSome = is)
    (hK : wpListIn F nF P ops Q rest (a.put o.dst (if ok then .tuple #[v, .bool is] else v)) w) :
    wpListIn F nF P ops Q (o :: rest) a w := by
  subst hv
  subst his
  refine wpListIn_plain hg fun K' hK' => ?_
  unfold Oper.wpIn
  refine ⟨by simp [Oper.about, hop], ?_⟩
  rw [Oper.semAt_plain F _ _ (by rw [hop]; intro c hc'; cases hc')]
  simp [execOp, hop, hx, hix, run_lookup L hT hz h k ok, Result.andThen]
  exact hK' _ _ hK
theorem wpListIn_update {F : Fence} {nF : Nat} {w : World} (hg : o.guard = none) (T : TypeId) (x ix y : Operand) (hop : o.op = .mapUpdate T x ix y) (L : MKey P K enc) {E : TypeId} (hT : P.underlying T = some (.map K E))
    (k : κ) (v : β) (hx : a.eval x = .map (some b)) (hix : a.eval ix = enc k) (hy : a.eval y = val v) (h : MapIs enc val w b m)
    (hK : ∀ w', MapIs enc val w' b (mset m k v) → w.grownBy w' (some b) → wpListIn F nF P ops Q rest (a.put o.dst undef) w') :
    wpListIn F nF P ops Q (o :: rest) a w := by
  refine wpListIn_plain hg fun K' hK' => ?_
  obtain ⟨w', hrun, h1, h2⟩ := run_update L hT h k v
  unfold Oper.wpIn
  refine ⟨by simp [Oper.about, hop], ?_⟩
  rw [Oper.semAt_plain F _ _ (by rw [hop]; intro c hc'; cases hc')]
  simp [execOp, hop, hx, hix, hy, hrun, Result.andThen]
  exact hK' _ _ (hK w' h1 h2)
end
end Go.MapLaw
