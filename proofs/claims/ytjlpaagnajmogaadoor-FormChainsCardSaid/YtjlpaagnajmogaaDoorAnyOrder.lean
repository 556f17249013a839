/-
  A region that draws its order of evaluation, by one invariant that speaks of the operations that have come up so far: each operation hands it on, whatever has come up before; at the end it gives what is asked.
-/
import Derived.Orders
import Derived.WalkKit
import Derived.Outline
namespace Go.AnyOrder
variable {P : Program} {ops : Array Oper} {Q : Exit → Act → World → Prop} {md : Region.Mode}

/-- How many are still to come. -/
def todo (n : Nat) (L : Array Bool) : Nat := (List.range n).countP fun i => !L.getD i true
theorem countP_lt {p q : Nat → Bool} : ∀ l : List Nat, (∀ x ∈ l, q x = true → p x = true) → (∃ x ∈ l, p x = true ∧ q x = false) → l.countP q < l.countP p
  | [], _, h => by simp at h
  | y :: l, hpq, h => by
    have hle : l.countP q ≤ l.countP p := List.countP_mono_left fun x hx => hpq x (List.mem_cons_of_mem _ hx)
    have hy := hpq y List.mem_cons_self
    rw [List.countP_cons, List.countP_cons]
    obtain ⟨x, hx, h1, h2⟩ := h
    rcases List.mem_cons.1 hx with rfl | hx
    · rw [h1, h2]; simp; omega
    · have := countP_lt l (fun x hx => hpq x (List.mem_cons_of_mem _ hx)) ⟨x, hx, h1, h2⟩
      by_cases hq : q y = true
      · rw [hq, hy hq]; simp; omega
      · have e : (if q y = true then 1 else 0) = 0 := if_neg hq
        rw [e]; omega
theorem todo_set {n i : Nat} {L : Array Bool} (hi : i < n) (h : L.getD i true = false) : todo n (L.setIfInBounds i true) < todo n L := by
  refine countP_lt _ (fun x _ hx => ?_) ⟨i, List.mem_range.2 hi, by simp [h], ?_⟩
  · by_cases e : x = i
    · subst e; simp [h]
    · simpa [Array.getD_eq_getD_getElem?, Array.getElem?_setIfInBounds, Ne.symm e] using hx
  · simp [Array.getD_eq_getD_getElem?, Array.getElem?_setIfInBounds]
    split <;> rfl
theorem mem_ready {L : Array Bool} {i : Nat} (h : i ∈ Region.ready md ops L) : i < ops.size ∧ L.getD i true = false ∧ (((ops[i]?).map (·.after.all fun e => !Region.binds md e || L.getD e.on false)).getD false) = true := by
  unfold Region.ready at h
  obtain ⟨h1, h2⟩ := List.mem_filter.1 h
  simp only [Bool.and_eq_true, Bool.not_eq_true'] at h2
  exact ⟨List.mem_range.1 h1, h2⟩
/-- What an operation that may come up waits for has come up. -/
theorem dep {L : Array Bool} {i q : Nat} {o : Oper} {e : Edge} (h : i ∈ Region.ready md ops L) (ho : ops[i]? = some o) (he : o.after[q]? = some e) (hb : Region.binds md e = true) : L.getD e.on false = true := by
  obtain ⟨_, _, h3⟩ := mem_ready h
  rw [ho] at h3
  simp only [Option.map_some, Option.getD_some] at h3
  rw [Array.all_eq_true'] at h3
  have := h3 e (Array.mem_of_getElem? he)
  rw [hb] at this
  exact this
theorem ready_nil {L : Array Bool} (h : todo ops.size L = 0) : Region.ready md ops L = [] := by
  rw [List.eq_nil_iff_forall_not_mem]
  intro i hi
  obtain ⟨h1, h2, _⟩ := mem_ready hi
  have := List.countP_eq_zero.1 h i (List.mem_range.2 h1)
  simp [h2] at this

theorem wpAny_inv (Inv : Array Bool → Act → World → Prop)
    (step : ∀ L a w i, Inv L a w → i ∈ Region.ready md ops L → ∀ K : Act → World → Prop, (∀ a' w', Inv (L.setIfInBounds i true) a' w' → K a' w') → wpOp P ops Q i K a w)
    (last : ∀ L a w, Inv L a w → Region.ready md ops L = [] → Q .normal a w) :
    ∀ (fuel : Nat) (L : Array Bool) (a : Act) (w : World), todo ops.size L ≤ fuel → Inv L a w → wpAny P md ops Q fuel L a w := by
  intro fuel
  induction fuel with
  | zero => intro L a w h hi; exact ⟨ready_nil (by omega), last _ _ _ hi (ready_nil (by omega))⟩
  | succ fuel ih =>
    intro L a w h hi
    refine ⟨fun hr => last _ _ _ hi hr, fun i hmem => step L a w i hi hmem _ fun a' w' hi' => ih _ _ _ ?_ hi'⟩
    have := mem_ready hmem
    have := todo_set this.1 this.2.1
    omega
/-- A region that draws. -/
theorem wp_region {id : Nat} {a : Act} {w : World} (hm : P.follows .mixedOrders = true) (Inv : Array Bool → Act → World → Prop)
    (start : Inv (Array.replicate ops.size false) a w.drew)
    (step : ∀ L a w i, Inv L a w → i ∈ Region.ready .any ops L → ∀ K : Act → World → Prop, (∀ a' w', Inv (L.setIfInBounds i true) a' w' → K a' w') → wpOp P ops Q i K a w)
    (last : ∀ L a w, Inv L a w → Region.ready .any ops L = [] → Q .normal a w) : (Code.region id ops true).wp P Q a w := by
  refine wp_region_any hm (wpAny_inv Inv step last _ _ _ _ ?_ start)
  exact Nat.le_trans List.countP_le_length (by simp)
/-- An operation that is to be carried out. -/
theorem wpOp_go {i : Nat} {o : Oper} {K : Act → World → Prop} {a : Act} {w : World} (ho : ops[i]? = some o) (hw : Region.wanted o (yielded ops a.tmps) = true) (h : o.wp P a w K Q) : wpOp P ops Q i K a w := by
  unfold wpOp; rw [ho]; simp only [hw, if_true]; exact .inl h
/-- One that is left out. -/
theorem wpOp_out {i : Nat} {o : Oper} {K : Act → World → Prop} {a : Act} {w : World} (ho : ops[i]? = some o) (hw : Region.wanted o (yielded ops a.tmps) = false) (h : K (a.put o.dst undef) w) : wpOp P ops Q i K a w := by
  unfold wpOp; rw [ho]; simp only [hw]; exact h
/-- Where nothing may come up any more, all have come up (no operation waits for a later one). -/
theorem all_listed {L : Array Bool} (hs : L.size = ops.size) (hd : ((List.range ops.size).all fun i => ((ops[i]?).map (·.after.all fun e => !Region.binds md e || decide (e.on < i))).getD true) = true) (hr : Region.ready md ops L = []) :
    ∀ i, i < ops.size → L.getD i true = true := by
  intro i
  induction i using Nat.strongRecOn with
  | _ i ih =>
    intro hi
    cases hl : L.getD i true with
    | true => rfl
    | false =>
      exfalso
      have hmem : i ∈ Region.ready md ops L := by
        unfold Region.ready
        refine List.mem_filter.2 ⟨List.mem_range.2 hi, ?_⟩
        have h1 := List.all_eq_true.1 hd i (List.mem_range.2 hi)
        rw [Array.getElem?_eq_getElem hi] at h1 ⊢
        simp only [Option.map_some, Option.getD_some] at h1 ⊢
        rw [hl]
        simp only [Bool.not_false, Bool.true_and]
        rw [Array.all_eq_true'] at h1 ⊢
        intro e he
        have h2 := h1 e he
        simp only [Bool.or_eq_true, Bool.not_eq_true', decide_eq_true_eq] at h2 ⊢
        rcases h2 with h2 | h2
        · exact .inl h2
        · have h3 := ih e.on h2 (by omega)
          refine .inr ?_
          rw [Array.getD_eq_getD_getElem?] at h3 ⊢
          rw [Array.getElem?_eq_getElem (by omega)] at h3 ⊢
          exact h3
      rw [hr] at hmem
      cases hmem
end Go.AnyOrder
