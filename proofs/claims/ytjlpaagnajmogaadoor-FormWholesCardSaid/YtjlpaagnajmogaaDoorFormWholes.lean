/-
  The walk of the law FormWholes: it answers true for every slice of nodes, wherever it lies, in any world that holds the words.
-/
import Derived.Test.YtjlpaagnajmogaaDoorFormFaults
import Derived.Test.YtjlpaagnajmogaaDoorPFormx12
import Derived.Test.YtjlpaagnajmogaaDoorPFormx13
namespace Go.Proofs.YtjlpaagnajmogaaDoor.PForm
open Go.RowKit Go.Proofs.YtjlpaagnajmogaaDoorW.PrintWords Go.Proofs.YtjlpaagnajmogaaDoorW.PrintLast Go.Proofs.YtjlpaagnajmogaaDoorW.PrintMore
set_option linter.unusedVariables false
set_option linter.unusedSimpArgs false
open Go.Shelf
attribute [local go_sem] Oper.semAt_some
/-! ### the whole part: removing what is faulty, again and again, leaves what stands -/
/-- A node that stands: on the root, or on an older node that stands. -/
inductive Stand (l : List Node) : Node → Prop
  | root (x : Node) (hx : x ∈ l) (hr : dotRoot x.f1 = true) : Stand l x
  | up (x p : Node) (hx : x ∈ l) (hp : Stand l p) (hd : p.f0 = x.f1) (ht : p.f2 < x.f2) : Stand l x
theorem Stand.mem {l : List Node} {x : Node} (h : Stand l x) : x ∈ l := by cases h <;> assumption
theorem Stand.mono {l m : List Node} (hs : ∀ x ∈ l, x ∈ m) {x : Node} (h : Stand l x) : Stand m x := by
  induction h with
  | root x hx hr => exact .root x (hs x hx) hr
  | up x p hx _ hd ht ih => exact .up x p (hs x hx) ih hd ht
/-- What is left of a list without the places that p names: the largest first. -/
def keepAt (p : Nat → Bool) : List Node → Nat → List Node
  | [], _ => []
  | x :: l, i => if p i then keepAt p l (i + 1) else x :: keepAt p l (i + 1)
theorem keepAt_append (p : Nat → Bool) (l m : List Node) (i : Nat) : keepAt p (l ++ m) i = keepAt p l i ++ keepAt p m (i + l.length) := by
  induction l generalizing i with
  | nil => simp [keepAt]
  | cons x l ih =>
    simp only [List.cons_append, keepAt, List.length_cons]
    rw [ih, show i + 1 + l.length = i + (l.length + 1) by omega]
    split <;> rfl
theorem faults_foldr (l : List Node) (pre : List Fault) (m : List Node) : dropAt m (bk pre) = pre.foldr (fun f m => m.eraseIdx f.f0.toNat) m := by
  unfold dropAt bk
  rw [List.foldl_reverse, List.foldr_map]
  generalize (0 : Nat) = n
  induction pre generalizing n with
  | nil => rfl
  | cons f pre ih => rw [List.zipIdx_cons, List.foldr_cons, List.foldr_cons, ih]
theorem drop_upto (l : List Node) (a : List (Dot × Nat)) : ∀ (k : Nat) (m : List Node), k ≤ m.length → (faultsUpto l a k).foldr (fun f m => m.eraseIdx f.f0.toNat) m = keepAt (fun i => decide (flawOf l a i ≠ 0)) (m.take k) 0 ++ m.drop k := by
  intro k
  induction k with
  | zero => intro m _; simp [faultsUpto, keepAt]
  | succ k ih =>
    intro m hk
    have hkl : k < m.length := by omega
    rw [faultsUpto_succ, List.take_succ_eq_append_getElem hkl, keepAt_append, List.length_take, Nat.min_eq_left (by omega), Nat.zero_add]
    by_cases hf : flawOf l a k = 0
    · rw [if_pos hf, List.append_nil, ih m (by omega), List.drop_eq_getElem_cons hkl]
      simp [keepAt, hf]
    · rw [if_neg hf, List.foldr_append]
      simp only [List.foldr_cons, List.foldr_nil, Int.toNat_natCast]
      rw [ih _ (by rw [List.length_eraseIdx, if_pos hkl]; omega), List.eraseIdx_eq_take_drop_succ, List.take_left' (by rw [List.length_take]; omega), List.drop_left' (by rw [List.length_take]; omega)]
      simp [keepAt, hf]
theorem dropFaults_is (l : List Node) : dropFaults l = keepAt (fun i => decide (flawOf l (atOf (bk l)) i ≠ 0)) l 0 := by
  unfold dropFaults
  rw [faults_foldr l]
  unfold faultsOf
  rw [drop_upto l _ l.length l (Nat.le_refl _)]
  simp
theorem mem_keepAt {p : Nat → Bool} {l : List Node} {x : Node} {i : Nat} : x ∈ keepAt p l i ↔ ∃ j, l[j]? = some x ∧ p (i + j) = false := by
  induction l generalizing i with
  | nil => simp [keepAt]
  | cons y l ih =>
    rw [keepAt]
    constructor
    · intro h
      split at h
      · obtain ⟨j, hj, hp⟩ := ih.1 h
        exact ⟨j + 1, by simpa using hj, by rw [show i + (j + 1) = i + 1 + j by omega]; exact hp⟩
      · rename_i hp
        rcases List.mem_cons.1 h with rfl | h
        · exact ⟨0, rfl, by simpa using hp⟩
        · obtain ⟨j, hj, hp⟩ := ih.1 h
          exact ⟨j + 1, by simpa using hj, by rw [show i + (j + 1) = i + 1 + j by omega]; exact hp⟩
    · rintro ⟨j, hj, hp⟩
      cases j with
      | zero =>
        simp at hj; subst hj
        rw [Nat.add_zero] at hp
        rw [hp]; simp
      | succ j =>
        have := ih.2 ⟨j, by simpa using hj, by rw [show i + 1 + j = i + (j + 1) by omega]; exact hp⟩
        split
        · exact this
        · exact List.mem_cons_of_mem _ this
theorem keepAt_sublist (p : Nat → Bool) (l : List Node) (i : Nat) : (keepAt p l i).Sublist l := by
  induction l generalizing i with
  | nil => exact List.Sublist.slnil
  | cons x l ih =>
    rw [keepAt]
    split
    · exact (ih _).cons _
    · exact (ih _).cons_cons _
theorem filter_keepAt (p : Nat → Bool) (q : Node → Bool) (l : List Node) (i : Nat) (h : ∀ j x, l[j]? = some x → p (i + j) = true → q x = false) : (keepAt p l i).filter q = l.filter q := by
  induction l generalizing i with
  | nil => rfl
  | cons x l ih =>
    have hr := ih (i + 1) (fun j y hy hp => h (j + 1) y (by simpa using hy) (by rw [show i + (j + 1) = i + 1 + j by omega]; exact hp))
    rw [keepAt]
    split
    · rename_i hp
      rw [hr, List.filter_cons, h 0 x rfl (by simpa using hp)]; simp
    · rw [List.filter_cons, List.filter_cons, hr]
/-- Dots that increase. -/
def Inc (l : List Node) : Prop := l.Pairwise fun a b => dotLt a.f0 b.f0 = true
theorem inc_of {l : List Node} (h : incB (l.map (·.f0)) = true) : Inc l := by
  unfold Inc
  induction l with
  | nil => exact List.Pairwise.nil
  | cons x l ih =>
    cases l with
    | nil => exact List.pairwise_singleton _ _
    | cons y l =>
      simp only [List.map_cons, incB, Bool.and_eq_true] at h
      have hr := ih (by simpa using h.2)
      refine List.pairwise_cons.2 ⟨fun z hz => ?_, hr⟩
      rcases List.mem_cons.1 hz with rfl | hz
      · exact h.1
      · exact dotLt_trans h.1 ((List.pairwise_cons.1 hr).1 z hz)
theorem inc_unique {l : List Node} (h : Inc l) {i j : Nat} {x y : Node} (hx : l[i]? = some x) (hy : l[j]? = some y) (e : x.f0 = y.f0) : i = j := by
  obtain ⟨hi, rfl⟩ := List.getElem?_eq_some_iff.1 hx
  obtain ⟨hj, rfl⟩ := List.getElem?_eq_some_iff.1 hy
  rcases Nat.lt_trichotomy i j with hij | hij | hij
  · have := List.pairwise_iff_getElem.1 h i j hi hj hij
    rw [e, dotLt_irrefl] at this; cases this
  · exact hij
  · have := List.pairwise_iff_getElem.1 h j i hj hi hij
    rw [e, dotLt_irrefl] at this; cases this
theorem idxN_some {l : List Node} {n : Nat} {d : Dot} {k : Nat} (h : idxN l n d = some k) : ∃ x, l[k - n]? = some x ∧ x.f0 = d := by
  induction l generalizing n with
  | nil => cases h
  | cons x l ih =>
    rw [idxN] at h
    split at h
    · rename_i e
      cases h
      exact ⟨x, by simp, e.symm⟩
    · obtain ⟨y, hy, e⟩ := ih h
      have := idxN_lt l _ _ k h
      exact ⟨y, by rw [show k - n = (k - (n + 1)) + 1 by omega]; simpa using hy, e⟩
theorem idxN_none {l : List Node} {n : Nat} {d : Dot} (h : idxN l n d = none) : ∀ x ∈ l, x.f0 ≠ d := by
  induction l generalizing n with
  | nil => intro x hx; cases hx
  | cons y l ih =>
    rw [idxN] at h
    split at h
    · cases h
    · rename_i hne
      intro x hx
      rcases List.mem_cons.1 hx with rfl | hx
      · exact fun e => hne e.symm
      · exact ih h x hx
/-- A node of an allowed list has no flaw just where it stands on the root, or on an older node. -/
theorem flaw_zero {l : List Node} (hok : ∀ x ∈ l, nodeOk x = true) (hinc : Inc l) {i : Nat} {x : Node} (hx : l[i]? = some x) :
    flawOf l (atOf (bk l)) i = 0 ↔ (dotRoot x.f1 = true ∨ ∃ p ∈ l, p.f0 = x.f1 ∧ p.f2 < x.f2) := by
  rw [flawOf_at hx]
  have hm := List.mem_of_getElem? hx
  have hi := (List.getElem?_eq_some_iff.1 hx).1
  rw [if_neg (by rw [hok x hm]; simp)]
  have hstep : 0 < i → ∃ hp : i - 1 < l.length, dotLt l[i - 1].f0 x.f0 = true := fun h0 => by
    have hp : i - 1 < l.length := by omega
    refine ⟨hp, ?_⟩
    have := List.pairwise_iff_getElem.1 hinc (i - 1) i hp hi (by omega)
    rwa [(List.getElem?_eq_some_iff.1 hx).2] at this
  by_cases h0 : 0 < i
  obtain ⟨hp, hlt⟩ := hstep h0
  simp only [List.getElem?_eq_getElem hp, hlt, h0, true_and, Bool.true_eq_false, if_false]
  clear hp hlt
  rotate_left
  simp only [h0, false_and, if_false]
  all_goals
    clear hstep h0
    by_cases hr : dotRoot x.f1 = true
    · simp [hr]
    · rw [if_neg hr, at_bk]
      cases hn : idxN l 0 x.f1 with
      | none =>
        simp only []
        constructor
        · intro h; cases h
        · rintro (h | ⟨p, hp, e, _⟩)
          · exact absurd h hr
          · exact absurd e (idxN_none hn p hp)
      | some k =>
        obtain ⟨p, hp, e⟩ := idxN_some hn
        simp only [Nat.sub_zero] at hp
        simp only [hp]
        constructor
        · intro h
          refine .inr ⟨p, List.mem_of_getElem? hp, e, ?_⟩
          by_cases ht : x.f2 ≤ p.f2
          · simp [ht] at h
          · omega
        · rintro (h | ⟨q, hq, e', ht⟩)
          · exact absurd h hr
          · obtain ⟨j, hj⟩ := List.getElem?_of_mem hq
            have := inc_unique hinc hj hp (e'.trans e.symm)
            subst this
            rw [hp] at hj; cases hj
            rw [if_neg (by simp; omega)]
theorem stand_flaw {l : List Node} (hok : ∀ x ∈ l, nodeOk x = true) (hinc : Inc l) {i : Nat} {x : Node} (hx : l[i]? = some x) (h : Stand l x) : flawOf l (atOf (bk l)) i = 0 := by
  refine (flaw_zero hok hinc hx).2 ?_
  cases h with
  | root _ _ hr => exact .inl hr
  | up _ p _ hp hd ht => exact .inr ⟨p, hp.mem, hd, ht⟩
theorem stand_drop {l : List Node} (hok : ∀ x ∈ l, nodeOk x = true) (hinc : Inc l) (x : Node) : Stand (dropFaults l) x ↔ Stand l x := by
  rw [dropFaults_is]
  constructor
  · exact Stand.mono fun y hy => (keepAt_sublist _ l 0).subset hy
  · intro h
    induction h with
    | root x hx hr =>
      obtain ⟨j, hj⟩ := List.getElem?_of_mem hx
      exact .root x (mem_keepAt.2 ⟨j, hj, by simpa using stand_flaw hok hinc hj (.root x hx hr)⟩) hr
    | up x p hx hp hd ht ih =>
      obtain ⟨j, hj⟩ := List.getElem?_of_mem hx
      exact .up x p (mem_keepAt.2 ⟨j, hj, by simpa using stand_flaw hok hinc hj (.up x p hx hp hd ht)⟩) ih hd ht
theorem faults_none {l : List Node} (h : faultsOf l = []) : ∀ i, i < l.length → flawOf l (atOf (bk l)) i = 0 := by
  have : ∀ k, faultsUpto l (atOf (bk l)) k = [] → ∀ i, i < k → flawOf l (atOf (bk l)) i = 0 := by
    intro k
    induction k with
    | zero => intro _ i hi; omega
    | succ k ih =>
      intro hk i hi
      rw [faultsUpto_succ] at hk
      obtain ⟨h1, h2⟩ := List.append_eq_nil_iff.1 hk
      rcases Nat.lt_succ_iff_lt_or_eq.1 hi with hi | rfl
      · exact ih h1 i hi
      · by_cases hf : flawOf l (atOf (bk l)) i = 0
        · exact hf
        · rw [if_neg hf] at h2; cases h2
  exact this l.length h
theorem all_stand {l : List Node} (hok : ∀ x ∈ l, nodeOk x = true) (hinc : Inc l) (h : faultsOf l = []) : ∀ x ∈ l, Stand l x := by
  have : ∀ (n : Nat) (x : Node), x ∈ l → x.f2.toNat ≤ n → Stand l x := by
    intro n
    induction n with
    | zero =>
      intro x hx hn
      have := hok x hx
      unfold nodeOk at this
      have := of_decide_eq_true this
      omega
    | succ n ih =>
      intro x hx hn
      obtain ⟨j, hj⟩ := List.getElem?_of_mem hx
      rcases (flaw_zero hok hinc hj).1 (faults_none h j (List.getElem?_eq_some_iff.1 hj).1) with hr | ⟨p, hp, hd, ht⟩
      · exact .root x hx hr
      · have h1 := of_decide_eq_true (show decide _ = true from hok p hp)
        have h2 := of_decide_eq_true (show decide _ = true from hok x hx)
        exact .up x p hx (ih p hp (by omega)) hd ht
  exact fun x hx => this _ x hx (Nat.le_refl _)
open Classical in
theorem wholeOf_stand (n : Nat) : ∀ l : List Node, l.length ≤ n → (∀ x ∈ l, nodeOk x = true) → Inc l → wholeOf l = l.filter fun x => decide (Stand l x) := by
  induction n with
  | zero =>
    intro l hl _ _
    have : l = [] := List.length_eq_zero_iff.1 (by omega)
    subst this; rfl
  | succ n ih =>
    intro l hl hok hinc
    by_cases hf : faultsOf l = []
    · rw [wholeOf_nil hf]
      exact (List.filter_eq_self.2 fun x hx => decide_eq_true (all_stand hok hinc hf x hx)).symm
    · have hpos : 0 < (faultsOf l).length := List.length_pos_iff.2 hf
      have hle := faultsOf_length l
      have hd := dropFaults_length l
      have hsub : (dropFaults l).Sublist l := by rw [dropFaults_is]; exact keepAt_sublist _ _ _
      rw [wholeOf_step hf, ih (dropFaults l) (by omega) (fun x hx => hok x (hsub.subset hx)) (hinc.sublist hsub)]
      have e : (fun x => decide (Stand (dropFaults l) x)) = fun x => decide (Stand l x) := by
        funext x; rw [decide_eq_decide]; exact stand_drop hok hinc x
      rw [e, dropFaults_is]
      refine filter_keepAt _ _ l 0 fun j x hx hp => decide_eq_false fun hs => ?_
      rw [Nat.zero_add] at hp
      exact (of_decide_eq_true hp) (stand_flaw hok hinc hx hs)
theorem wholeN_le (l : List Node) : ∀ k, (wholeN k l).length ≤ l.length := by
  intro k
  induction k generalizing l with
  | zero => exact Nat.le_refl _
  | succ k ih =>
    rw [wholeN]
    split
    · exact Nat.le_refl _
    · exact Nat.le_trans (ih _) (by rw [dropFaults_length]; omega)
theorem wholeOf_le (l : List Node) : (wholeOf l).length ≤ l.length := wholeN_le l _

theorem refValid_from (l : List Node) (hl : l.length ≤ 1000000) (hw : ∀ x ∈ l, runeIn x.f3) : ∀ (q k i : Nat), i + q = l.length → q < k → redpencilref10_Valid.l0 k l (i : Int) = some ((l.drop i).all nodeOk && (if 0 < i then incB ((l.drop (i - 1)).map (·.f0)) else incB (l.map (·.f0)))) := by
  intro q
  induction q with
  | zero =>
    intro k i hd hk
    obtain ⟨k, rfl⟩ : ∃ m, k = m + 1 := ⟨k - 1, by omega⟩
    obtain rfl : i = l.length := by omega
    simp only [redpencilref10_Valid.l0]
    rw [if_neg (by omega), List.drop_of_length_le (Nat.le_refl _)]
    by_cases h0 : 0 < l.length
    · rw [if_pos h0]
      have : l.drop (l.length - 1) = [l[l.length - 1]'(by omega)] := by rw [List.drop_eq_getElem_cons (by omega), List.drop_of_length_le (by omega)]
      rw [this]; rfl
    · rw [if_neg h0]
      have : l = [] := List.length_eq_zero_iff.1 (by omega)
      subst this; rfl
  | succ q ih =>
    intro k i hd hk
    obtain ⟨k, rfl⟩ : ∃ m, k = m + 1 := ⟨k - 1, by omega⟩
    have hi : i < l.length := by omega
    have hn := ih k (i + 1) (by omega) (by omega)
    rw [if_pos (by omega), Nat.add_sub_cancel] at hn
    simp only [redpencilref10_Valid.l0]
    rw [if_pos (by omega), if_pos (by omega), rdN hi, refNode_is _ (hw _ (List.getElem_mem hi)), wrap_succ hi hl]
    simp only [Option.bind_some]
    rw [List.drop_eq_getElem_cons hi, List.all_cons]
    cases hx : nodeOk l[i] with
    | false => simp
    | true =>
      simp only [if_true, Bool.true_and]
      by_cases h0 : 0 < i
      · have hp : i - 1 < l.length := by omega
        have hw1 : wrap64 ((i : Int) - 1) = ((i - 1 : Nat) : Int) := by unfold wrap64; omega
        rw [if_pos (by omega), hw1, if_pos (by omega), if_pos (by omega), rdN hp, refLess_is, if_pos h0]
        simp only [Option.bind_some]
        rw [List.drop_eq_getElem_cons hp, show i - 1 + 1 = i by omega, hn, List.drop_eq_getElem_cons hi]
        simp only [List.map_cons, incB]
        cases hd : dotLt l[i - 1].f0 l[i].f0 with
        | false => simp
        | true => simp
      · obtain rfl : i = 0 := by omega
        rw [if_neg (by omega), hn, if_neg (by omega)]
        simp
theorem refValid_is (l : List Node) (hl : l.length ≤ 1000000) (hw : ∀ x ∈ l, runeIn x.f3) (k : Nat) (hk : l.length < k) : redpencilref10_Valid.f k l = some (storeOk l) := by
  have := refValid_from l hl hw l.length k 0 (by omega) hk
  rw [List.drop_zero, if_neg (by omega)] at this
  exact this
/-- How many nodes are no younger. -/
def older (l : List Node) (x : Node) : Nat := l.countP fun y => decide (y.f2 ≤ x.f2)
theorem older_lt {l : List Node} {x p : Node} (hx : x ∈ l) (h : p.f2 < x.f2) : older l p < older l x := by
  unfold older
  induction l with
  | nil => cases hx
  | cons y l ih =>
    rw [List.countP_cons, List.countP_cons]
    have hle : l.countP (fun y => decide (y.f2 ≤ p.f2)) ≤ l.countP fun y => decide (y.f2 ≤ x.f2) := List.countP_mono_left fun z _ hz => by simp at hz ⊢; omega
    rcases List.mem_cons.1 hx with rfl | hx
    · have h1 : decide (x.f2 ≤ p.f2) = false := decide_eq_false (by omega)
      have h2 : decide (x.f2 ≤ x.f2) = true := decide_eq_true (Int.le_refl _)
      rw [h1, h2]; simp; omega
    · have := ih hx
      by_cases hy : y.f2 ≤ p.f2
      · have h1 : decide (y.f2 ≤ p.f2) = true := decide_eq_true hy
        have h2 : decide (y.f2 ≤ x.f2) = true := decide_eq_true (by omega)
        rw [h1, h2]; simp; omega
      · have h1 : decide (y.f2 ≤ p.f2) = false := decide_eq_false hy
        rw [h1]; simp; split <;> omega
theorem older_le (l : List Node) (x : Node) : older l x ≤ l.length := List.countP_le_length
open Classical in
theorem refStands_from (l : List Node) (hl : l.length ≤ 1000000) (hw : ∀ x ∈ l, runeIn x.f3) (hok : ∀ x ∈ l, nodeOk x = true) (hinc : Inc l) : ∀ (n k i s : Nat) (x : Node), l[i]? = some x → older l x ≤ n → n + l.length + 3 < k → s + older l x ≤ l.length → redpencilref13_stands.l0 k l (i : Int) (s : Int) = some (decide (Stand l x)) := by
  intro n
  induction n with
  | zero =>
    intro k i s x hx ho _ _
    have hm := List.mem_of_getElem? hx
    have : 0 < older l x := List.countP_pos_iff.2 ⟨x, hm, decide_eq_true (Int.le_refl _)⟩
    omega
  | succ n ih =>
    intro k i s x hx ho hk hs
    obtain ⟨k, rfl⟩ : ∃ m, k = m + 1 := ⟨k - 1, by omega⟩
    have hm := List.mem_of_getElem? hx
    obtain ⟨hi, hxe⟩ := List.getElem?_eq_some_iff.1 hx
    simp only [redpencilref13_stands.l0]
    rw [if_pos (by omega), refFlaw_is l hl hw i hi k (by omega)]
    simp only [Option.bind_some]
    by_cases hf : flawOf l (atOf (bk l)) i = 0
    · rw [if_pos hf, if_pos (by omega), if_pos (by omega), rdN hi, hxe, refRoot_is]
      simp only [Option.bind_some]
      by_cases hr : dotRoot x.f1 = true
      · rw [if_pos hr]
        congr 1
        exact (decide_eq_true (Stand.root x hm hr)).symm
      · rw [if_neg hr, refFind_is l hl x.f1 k (by omega)]
        simp only [Option.bind_some]
        rcases (flaw_zero hok hinc hx).1 hf with h | ⟨p, hp, hd, ht⟩
        · exact absurd h hr
        · cases hn : idxN l 0 x.f1 with
          | none => exact absurd hd (idxN_none hn p hp)
          | some j =>
            obtain ⟨q, hq, e⟩ := idxN_some hn
            rw [Nat.sub_zero] at hq
            obtain ⟨j', hj'⟩ := List.getElem?_of_mem hp
            have := inc_unique hinc hj' hq (hd.trans e.symm)
            subst this
            rw [hq] at hj'
            obtain rfl := Option.some.inj hj'
            have hol := older_lt hm ht
            simp only []
            have hss : wrap64 ((s : Int) + 1) = ((s + 1 : Nat) : Int) := by unfold wrap64; omega
            have a1 : older l q ≤ n := Nat.le_of_lt_succ (Nat.lt_of_lt_of_le hol ho)
            have a2 : n + l.length + 3 < k := by clear hss hol a1 hs; omega
            have a3 : s + 1 + older l q ≤ l.length := by clear hss a1 a2 hk; omega
            rw [hss]
            refine (ih k j' (s + 1) q hq a1 a2 a3).trans ?_
            congr 1
            rw [decide_eq_decide]
            constructor
            · exact fun h => .up x q hm h hd ht
            · intro h
              cases h with
              | root _ _ h' => exact absurd h' hr
              | up _ p' _ hp' hd' _ =>
                obtain ⟨j2, hj2⟩ := List.getElem?_of_mem hp'.mem
                have := inc_unique hinc hj2 hq (hd'.trans hd.symm)
                subst this
                rw [hq] at hj2; cases hj2
                exact hp'
    · rw [if_neg hf]
      congr 1
      exact (decide_eq_false fun h => hf (stand_flaw hok hinc hx h)).symm
open Classical in
theorem refWhole_from (l : List Node) (hl : l.length ≤ 1000000) (hw : ∀ x ∈ l, runeIn x.f3) (hok : ∀ x ∈ l, nodeOk x = true) (hinc : Inc l) : ∀ (q k i : Nat), i + q = l.length → q + 2 * l.length + 6 < k → redpencilref13_Whole.l0 k l ((l.take i).filter fun x => decide (Stand l x)) (i : Int) = some (l.filter fun x => decide (Stand l x)) := by
  intro q
  induction q with
  | zero =>
    intro k i hd hk
    obtain ⟨k, rfl⟩ : ∃ m, k = m + 1 := ⟨k - 1, by omega⟩
    obtain rfl : i = l.length := by omega
    simp only [redpencilref13_Whole.l0]
    rw [if_neg (by omega), List.take_length]
  | succ q ih =>
    intro k i hd hk
    obtain ⟨k, rfl⟩ : ∃ m, k = m + 1 := ⟨k - 1, by omega⟩
    have hi : i < l.length := by omega
    have hn := ih k (i + 1) (by omega) (by omega)
    rw [List.take_succ_eq_append_getElem hi, List.filter_append] at hn
    have hst : redpencilref13_stands.f k l (i : Int) = some (decide (Stand l l[i])) := refStands_from l hl hw hok hinc l.length k i 0 l[i] (List.getElem?_eq_getElem hi) (older_le _ _) (by omega) (by have := older_le l l[i]; omega)
    simp only [redpencilref13_Whole.l0]
    rw [if_pos (by omega), hst, wrap_succ hi hl]
    simp only [Option.bind_some]
    by_cases h : Stand l l[i]
    · have hlen : ((l.take i).filter fun x => decide (Stand l x)).length ≤ i := by
        refine Nat.le_trans (List.length_filter_le _ _) ?_
        rw [List.length_take]; omega
      have hlen2 : ((l.take i).filter fun x => decide (Stand l x)).length < 2932031007402 := by omega
      rw [if_pos (decide_eq_true h), if_pos (by omega), if_pos hlen2, rdN hi]
      simp only [List.filter_cons, decide_eq_true h, if_true, List.filter_nil] at hn
      exact hn
    · rw [if_neg (by simp [h])]
      simp only [List.filter_cons, decide_eq_false h, Bool.false_eq_true, if_false, List.filter_nil, List.append_nil] at hn
      exact hn
theorem refWhole_is (l : List Node) (hl : l.length ≤ 1000000) (hw : ∀ x ∈ l, runeIn x.f3) (h : storeOk l = true) (k : Nat) (hk : 3 * l.length + 6 < k) : redpencilref13_Whole.f k l = some (wholeOf l) := by
  unfold storeOk at h
  simp only [Bool.and_eq_true, List.all_eq_true] at h
  have hinc := inc_of h.2
  rw [wholeOf_stand l.length l (Nat.le_refl _) h.1 hinc]
  exact refWhole_from l hl hw h.1 hinc l.length k 0 (by omega) (by omega)

/-! ### FormWholes -/
/-- A row of n nodes whose times may be raised. -/
def Times (g n : Nat) (W : World) : Prop := n = 0 ∨ ∃ cur : Array Value, W.heap[g]? = some (.cells cur 37 (0, 0)) ∧ ∀ i, i < n → ∃ t, cur[i * 6 + 4]? = some (.int .i64 t)
theorem Times.of {W : World} {base g n cap : Nat} {xs : List Node} (h : Kd.R k37 37 W base (fun _ => True) (.slice (some ⟨g, 0, none⟩) n cap) xs) : Times g n W := by
  by_cases hn : n = 0
  · exact .inl hn
  · have hl : n = xs.length := (Kd.R_reads' h).1
    have ho := cells_of_R h
    obtain ⟨_, ho⟩ := ho
    rcases ho with ⟨h0, _⟩ | ⟨g', cap', cur, he, hbg, hcur, hle, hmx, hsz, htk⟩
    · cases h0
    · cases he
      refine .inr ⟨cur, hcur, fun i hi => ?_⟩
      have hx : xs[i]? = some (xs[i]'(by omega)) := List.getElem?_eq_getElem (by omega)
      have hc : (cellsOf xs)[i * 6 + 4]? = some (.int .i64 (xs[i]'(by omega)).f2) := by
        have := cellsOf_drop_take xs i _ hx
        have h4 := congrArg (·[4]?) this
        simp only [List.getElem?_take, List.getElem?_drop] at h4
        rw [if_pos (by omega)] at h4
        rw [h4]; rfl
      rw [← htk, List.getElem?_take] at hc
      split at hc
      · exact ⟨_, by rw [← Array.getElem?_toList]; exact hc⟩
      · cases hc
theorem Times.set {g n : Nat} {W : World} (h : Times g n W) (k : Nat) (t : Int) : Times g n (W.setCell ⟨g, k * 6 + 4, none⟩ (.int .i64 t)) := by
  rcases h with h | ⟨cur, h1, h2⟩
  · exact .inl h
  · refine .inr ⟨_, blk_set h1 (k * 6 + 4) _, fun i hi => ?_⟩
    rw [Array.getElem?_setIfInBounds]
    obtain ⟨t', ht⟩ := h2 i hi
    split
    · rename_i e
      have : i * 6 + 4 < cur.size := (Array.getElem?_eq_some_iff.1 ht).1
      rw [if_pos (by omega)]; exact ⟨_, rfl⟩
    · exact ⟨t', ht⟩
theorem Times.below {g n : Nat} {W V : World} (h : Times g n W) (hb : Below W.heap.size W V) : Times g n V := h.imp id fun ⟨cur, h1, h2⟩ => ⟨cur, blk_keep h1 hb, h2⟩
theorem lawWhole_bad (l : List Node) (hl : l.length ≤ 1000000) (hs : storeOk l = false) : redpencillaw13_whole.f 1000 l [] 2 = some true := by
  unfold redpencillaw13_whole.f shape_Whole.f
  rw [if_pos hl, if_neg (by simp [hs])]
  rfl
set_option maxHeartbeats 1000000 in
set_option maxRecDepth 100000 in
theorem FormWholes.walk (A0 : Option Addr) (c0 : Nat) (l0 : List Node) (w : World) (hr0 : Kd.C k37 w A0 l0.length l0) (hc0 : l0.length ≤ c0) (hi : ∀ x ∈ l0, runeIn x.f3) (hw : WordsAt w) :
    Calls Tryd.prog 4 #[.slice A0 l0.length c0] w fun e w' => e = .returned (.bool true) ∧ Below w.heap.size w w' := by
  have HW := Aside0.mk hw
  have HR := Aside0.mk hr0
  have HC := Aside0.mk hc0
  have HI := Aside0.mk hi
  clear hw hr0 hc0 hi
  by_cases h40 : l0.length > 40
  · have hb : decide ((l0.length : Int) > 40) = true := decide_eq_true (by omega)
    have hb2 : decide ((40 : Int) < (l0.length : Int)) = true := decide_eq_true (by omega)
    go_enter Tryd.func4, Tryd.ntmps4
    go_wp2_with fail
    refine (known.walk _ HW.out).mono ?_
    rintro e W3 ⟨rfl, hd⟩
    go_wp2_with fail
    go_ret
    exact ⟨rfl, hd⟩
  · have hb : decide ((l0.length : Int) > 40) = false := decide_eq_false (by omega)
    have hb2 : decide ((40 : Int) < (l0.length : Int)) = false := decide_eq_false (by omega)
    have hl : l0.length ≤ 40 := by omega
    clear h40
    have hval := redpencilref10_Valid.calls 1000 A0 c0 l0 (storeOk l0) w HR.out HC.out (refValid_is l0 (by omega) HI.out 1000 (by omega))
    have hbad : storeOk l0 = false → redpencillaw13_whole.f 1000 l0 [] 2 = some true := lawWhole_bad l0 (by omega)
    have HBAD := Aside0.mk hbad
    clear hbad
    obtain ⟨n, Hn⟩ : ∃ n, Aside0 (l0.length = n) := ⟨_, ⟨rfl⟩⟩
    obtain ⟨b, Hb⟩ : ∃ b, Aside0 (storeOk l0 = b) := ⟨_, ⟨rfl⟩⟩
    rw [Hn.out, Hb.out] at hval
    rw [Hn.out] at hb hb2 hl ⊢
    have HL := Aside0.mk hl
    have HV := Aside0.mk hval
    have HRN : Aside0 (Kd.C k37 w A0 n l0) := ⟨by have := HR.out; rwa [Hn.out] at this⟩
    clear hval
    go_enter Tryd.func4, Tryd.ntmps4
    go_wp2_with fail
    refine HV.out.mono ?_
    rintro e w1 ⟨rfl, hb1⟩
    clear HV
    cases b with
    | false =>
      have HB := Aside0.mk hb1
      clear hb1
      go_wp2_with fail
      have hwc := redpencillaw13_whole.calls 1000 A0 c0 l0 none 0 [] 2 true w1 (Kd.C_below HR.out HB.out) HC.out ⟨rfl, by decide, fun h => absurd h (by decide)⟩ (Nat.le_refl _) (HBAD.out Hb.out)
      rw [Hn.out] at hwc
      refine hwc.mono ?_
      clear hwc HBAD
      rintro e w2 ⟨rfl, hb2⟩
      have HB := Aside0.mk (below_more HB.out hb2)
      clear hb2
      go_wp2_with fail
      refine (known.walk _ (HW.out.below HB.out)).mono ?_
      rintro e w5 ⟨rfl, hb5⟩
      have HB := Aside0.mk (below_more HB.out hb5)
      clear hb5
      go_wp2_with fail
      go_ret
      exact ⟨rfl, HB.out⟩
    | true =>
      have HB := Aside0.mk hb1
      clear hb1 HBAD
      go_wp2_with (at_builtin; refine app_nodes rfl (.tmp 19) rfl A0 l0 n c0 Hn.out rfl (Kd.C_below HRN.out HB.out) (by omega) ?_; intro v1 w2 ho hb1)
      have hl2 : l0.length ≤ 40 := by rw [Hn.out]; exact HL.out
      have HB := Aside0.mk (below_more HB.out hb1)
      clear hb1
      obtain ⟨A1, c1, rfl, hc1, hC1⟩ := Kd.R_reads ho
      have HC1 := Aside0.mk hC1
      have Hc1 := Aside0.mk hc1
      clear ho hC1 hc1
      refine (shape_Whole.calls A1 c1 l0 (wholeOf l0) 0 w2 HC1.out Hc1.out (by unfold shape_Whole.f; rw [if_pos (by omega), if_pos Hb.out])).mono ?_
      rintro e w3 ⟨vx, rfl, hox, hb3⟩
      have HR2 := Aside0.mk (fun W (hb : Below w.heap.size w W) => redpencilref13_Whole.calls 1000 A0 c0 l0 (wholeOf l0) W (Kd.C_below HR.out hb) HC.out (refWhole_is l0 (by omega) HI.out Hb.out 1000 (by omega)))
      have hwl : (wholeOf l0).length ≤ 1000000 := by
        have : (wholeOf l0).length ≤ l0.length := wholeOf_le l0
        omega
      have HEQ := Aside0.mk (refEqual_is (wholeOf l0) (wholeOf l0) hwl ((wholeOf l0).length + 1) (Nat.lt_succ_self _))
      obtain ⟨ys, Hys⟩ : ∃ ys, Aside0 (wholeOf l0 = ys) := ⟨_, ⟨rfl⟩⟩
      rw [Hys.out] at hox HR2 HEQ hwl
      have HWL := Aside0.mk hwl
      have HEQ2 : Aside0 (redpencilref10_Equal.f (ys.length + 1) ys ys = some true) := ⟨by rw [HEQ.out]; simp⟩
      clear HEQ hwl hl2
      obtain ⟨A2, c2, rfl⟩ := Kd.R_slice hox
      obtain ⟨m, Hm⟩ : ∃ m, Aside0 (ys.length = m) := ⟨_, ⟨rfl⟩⟩
      have HOX := Aside0.mk hox
      rw [Hm.out] at hox ⊢
      have HB2 := HB
      have HB := Aside0.mk (below_more HB.out hb3)
      have HTM : Aside0 (m = 0 ∨ ∃ g, w2.heap.size ≤ g ∧ A2 = some ⟨g, 0, none⟩ ∧ Times g m w3) := ⟨by
        by_cases hm : m = 0
        · exact .inl hm
        · obtain ⟨g, cap, e, hg, _⟩ := Kd.R_form hox (by rw [Hm.out]; omega)
          cases e
          exact .inr ⟨g, hg, rfl, Times.of hox⟩⟩
      obtain ⟨_, _, e, hc2, hC2⟩ := Kd.R_reads hox
      rw [Hm.out] at e hc2 hC2
      cases e
      have HC2 := Aside0.mk hC2
      have Hc2 := Aside0.mk hc2
      have HX3 := Aside0.mk hb3
      clear hox HOX hb3 hC2 hc2
      go_wp2_with fail
      have hrw := HR2.out w3 HB.out
      rw [Hn.out] at hrw
      refine hrw.mono ?_
      clear hrw HR2
      rintro e w4 ⟨vr, rfl, hor, hb4⟩
      obtain ⟨A3, c3, rfl, hc3, hC3⟩ := Kd.R_reads hor
      have HC3 := Aside0.mk hC3
      have Hc3 := Aside0.mk hc3
      have HTM : Aside0 (m = 0 ∨ ∃ g, w2.heap.size ≤ g ∧ A2 = some ⟨g, 0, none⟩ ∧ Times g m w4) := ⟨HTM.out.imp id fun ⟨g, h1, h2, h3⟩ => ⟨g, h1, h2, h3.below hb4⟩⟩
      have HC2 := Aside0.mk (Kd.C_below HC2.out hb4)
      have HX3 := Aside0.mk (below_more HX3.out hb4)
      clear hor hb4 hC3 hc3
      go_wp2_with fail
      have heq := redpencilref10_Equal.calls (ys.length + 1) A2 c2 ys A3 c3 ys true w4 (by rw [Hm.out]; exact HC2.out) (by rw [Hm.out]; exact Hc2.out) HC3.out Hc3.out HEQ2.out
      (try rw [Hm.out] at heq)
      (try rw [Hm.out])
      refine heq.mono ?_
      clear heq
      rintro e w5 ⟨rfl, hb5⟩
      have hb5 := hb5.below
      have HTM : Aside0 (m = 0 ∨ ∃ g, w2.heap.size ≤ g ∧ A2 = some ⟨g, 0, none⟩ ∧ Times g m w5) := ⟨HTM.out.imp id fun ⟨g, h1, h2, h3⟩ => ⟨g, h1, h2, h3.below hb5⟩⟩
      have HX3 := Aside0.mk (below_more HX3.out hb5)
      have hml : m ≤ 1000000 := by rw [← Hm.out]; exact HWL.out
      clear hb5 HC2 HC3 Hc3 Hc2
      go_wp2_with fail
      go_loopw [37] (fun i wr => ∃ k : Nat, k ≤ m ∧ i = .int .i64 k ∧ Aside0 (m = 0 ∨ ∃ g, w2.heap.size ≤ g ∧ A2 = some ⟨g, 0, none⟩ ∧ Times g m wr) ∧ Aside0 (Below w2.heap.size w2 wr)) (fun i _ => m - (intOf i).toNat)
      case atStart => exact ⟨0, Nat.zero_le _, rfl, HTM, HX3⟩
      case round =>
        obtain ⟨k, hk, rfl, HT, HX⟩ := hrel
        clear HTM HX3
        by_cases hlt : k < m
        · obtain ⟨g, hg, hA, hT⟩ := HT.out.resolve_left (by omega)
          subst hA
          obtain ⟨cur, hcur, hall⟩ := hT.resolve_left (by omega)
          obtain ⟨t, ht⟩ := hall k hlt
          have hc0 : wr.cell? ⟨g, k * 6 + 4, none⟩ = some (.int .i64 t) := (blk_cell hcur _).trans ht
          have hf0 := blk_frozen hcur (k * 6 + 4)
          have HT1 := Aside0.mk hT
          have HG := Aside0.mk hg
          clear hcur hall ht hT hg HT
          go_wp2
          refine ⟨⟨k + 1, by omega, by go_num, ⟨.inr ⟨g, HG.out, rfl, HT1.out.set k _⟩⟩, ⟨HX.out.grown (grown_set (V := wr) (W := wr) ⟨rfl, rfl, rfl, Nat.le_refl _, fun _ _ _ => rfl⟩ _ _) HX.out.size (fun j e => by cases e; exact HG.out)⟩⟩, ?_⟩
          simp [intOf]; omega
        · obtain rfl : k = m := by omega
          go_wp2_with fail
          have hl2 : l0.length ≤ 40 := by rw [Hn.out]; exact HL.out
          have HBX := Aside0.mk (below_more HB2.out HX.out)
          have heq := redpencilref10_Equal.calls 100 A1 c1 l0 A0 c0 l0 true wr (Kd.C_below HC1.out HX.out) Hc1.out (Kd.C_below HR.out HBX.out) HC.out (by rw [refEqual_is l0 l0 (by omega) 100 (by omega)]; simp)
          rw [Hn.out] at heq
          (try rw [Hn.out])
          refine heq.mono ?_
          clear heq hl2
          rintro e w6 ⟨rfl, hb6⟩
          have HBX := Aside0.mk (below_more HBX.out hb6.below)
          clear hb6
          go_wp2_with fail
          refine (known.walk _ (HW.out.below HBX.out)).mono ?_
          rintro e w7 ⟨rfl, hb7⟩
          have HBX := Aside0.mk (below_more HBX.out hb7)
          clear hb7
          go_wp2_with fail
          go_ret
          exact ⟨rfl, HBX.out⟩

end Go.Proofs.YtjlpaagnajmogaaDoor.PForm
