/-
  The walk of the law FormChains: it answers true for every three bytes, in any world that holds the words.
-/
import Derived.Test.YtjlpaagnajmogaaDoorKnown
namespace Go.Proofs.YtjlpaagnajmogaaDoor.PForm
open Go.RowKit Go.Proofs.YtjlpaagnajmogaaDoorW.PrintWords Go.Proofs.YtjlpaagnajmogaaDoorW.PrintLast Go.Proofs.YtjlpaagnajmogaaDoorW.PrintMore
set_option linter.unusedVariables false
set_option linter.unusedSimpArgs false
open Go.Shelf
attribute [local go_sem] Oper.semAt_some
/-! ### the document's answers, layer 13: faults -/
/-- A rune that the machine can hold. -/
def runeIn (r : Int) : Prop := -9223372036854775808 ≤ r ∧ r ≤ 9223372036854775807

/-- The first node with a dot. -/
def idxN : List Node → Nat → Dot → Option Nat
  | [], _, _ => none
  | x :: l, n, d => if d = x.f0 then some n else idxN l (n + 1) d
theorem at_bk (l : List Node) (d : Dot) : MapLaw.mget (atOf (bk l)) d = idxN l 0 d := by
  have hb : atOf (bk l) = (l.zipIdx.map fun p => (p.2, p.1)).foldr (fun p m => MapLaw.mset m p.2.f0 p.1) [] := by
    exact List.foldl_reverse
  rw [hb]
  clear hb
  generalize (0 : Nat) = n
  induction l generalizing n with
  | nil => rfl
  | cons x l ih =>
    rw [List.zipIdx_cons, List.map_cons, List.foldr_cons, MapLaw.mget_mset, ih, idxN]
theorem idxN_lt (l : List Node) (n : Nat) (d : Dot) (k : Nat) (h : idxN l n d = some k) : n ≤ k ∧ k < n + l.length := by
  induction l generalizing n with
  | nil => cases h
  | cons x l ih =>
    rw [idxN] at h
    split at h
    · cases h; simp
    · have := ih _ h; simp; omega
theorem rdN {l : List Node} {i : Nat} (h : i < l.length) : rd_T37 l (i : Int) = l[i] := by simp [rd_T37, h]
theorem rdF {l : List Fault} {i : Nat} (h : i < l.length) : rd_T44 l (i : Int) = l[i] := by simp [rd_T44, h]
theorem wrap_succ {i n : Nat} (h : i < n) (hn : n ≤ 1000000) : wrap64 ((i : Int) + 1) = ((i + 1 : Nat) : Int) := by unfold wrap64; omega

theorem refSame_from (l : List Fault) (hl : l.length ≤ 1000000) : ∀ (q k i : Nat), i + q = l.length → q < k → redpencilref13_Same.l0 k l l (i : Int) = some true := by
  intro q
  induction q with
  | zero =>
    intro k i hd hk
    obtain ⟨k, rfl⟩ : ∃ m, k = m + 1 := ⟨k - 1, by omega⟩
    simp only [redpencilref13_Same.l0]
    rw [if_neg (by omega)]
  | succ q ih =>
    intro k i hd hk
    obtain ⟨k, rfl⟩ : ∃ m, k = m + 1 := ⟨k - 1, by omega⟩
    simp only [redpencilref13_Same.l0]
    have hi : i < l.length := by omega
    rw [if_pos (by omega), if_pos (by omega), if_pos (by omega), if_neg (by simp), wrap_succ hi hl]
    exact ih k (i + 1) (by omega) (by omega)
theorem refSame_is (l : List Fault) (hl : l.length ≤ 1000000) (k : Nat) (hk : l.length < k) : redpencilref13_Same.f k l l = some true := by
  unfold redpencilref13_Same.f
  rw [if_pos rfl]
  exact refSame_from l hl l.length k 0 (by omega) hk
theorem refEqual_from (l m : List Node) (hlm : l.length = m.length) (hl : l.length ≤ 1000000) : ∀ (q k i : Nat), i + q = l.length → q < k → redpencilref10_Equal.l0 k l m (i : Int) = some (decide (l.drop i = m.drop i)) := by
  intro q
  induction q with
  | zero =>
    intro k i hd hk
    obtain ⟨k, rfl⟩ : ∃ m, k = m + 1 := ⟨k - 1, by omega⟩
    simp only [redpencilref10_Equal.l0]
    rw [if_neg (by omega), List.drop_of_length_le (by omega), List.drop_of_length_le (by omega)]; simp
  | succ q ih =>
    intro k i hd hk
    obtain ⟨k, rfl⟩ : ∃ m, k = m + 1 := ⟨k - 1, by omega⟩
    simp only [redpencilref10_Equal.l0]
    have hi : i < l.length := by omega
    have hi2 : i < m.length := by omega
    rw [if_pos (by omega), if_pos (by omega), if_pos (by omega), rdN hi, rdN hi2, wrap_succ hi hl, ih k (i + 1) (by omega) (by omega), List.drop_eq_getElem_cons hi, List.drop_eq_getElem_cons hi2]
    by_cases e : l[i] = m[i]
    · rw [if_neg (by simp [e])]
      rw [e]
      simp only [List.cons.injEq, true_and]
    · have hne : ¬ (l[i] :: l.drop (i + 1) = m[i] :: m.drop (i + 1)) := fun h => e (List.cons.inj h).1
      rw [if_pos, decide_eq_false hne]
      rw [Node.ext_iff', Dot.ext_iff', Dot.ext_iff'] at e
      simp
      by_cases a1 : l[i].f0.f0 = m[i].f0.f0 <;> by_cases a2 : l[i].f0.f1 = m[i].f0.f1 <;> by_cases a3 : l[i].f1.f0 = m[i].f1.f0 <;> by_cases a4 : l[i].f1.f1 = m[i].f1.f1 <;> by_cases a5 : l[i].f2 = m[i].f2 <;> simp_all
theorem refEqual_is (l m : List Node) (hl : l.length ≤ 1000000) (k : Nat) (hk : l.length < k) : redpencilref10_Equal.f k l m = some (decide (l = m)) := by
  unfold redpencilref10_Equal.f
  by_cases h : l.length = m.length
  · rw [if_pos (by omega)]
    have := refEqual_from l m h hl l.length k 0 (by omega) hk
    simpa using this
  · rw [if_neg (by omega)]
    have : ¬ l = m := fun e => h (by rw [e])
    simp [this]
theorem lawFaults_is (l : List Node) (hl : l.length ≤ 1000000) (k : Nat) (hk : l.length + 1 < k) : redpencillaw13_faults.f k l (faultsOf l) = some true := by
  obtain ⟨k, rfl⟩ : ∃ m, k = m + 1 := ⟨k - 1, by omega⟩
  have hfl : (faultsOf l).length ≤ l.length := faultsUpto_length _ _ _
  have hF : shape_Faults.f l = some (faultsOf l) := by unfold shape_Faults.f; rw [if_pos hl]
  have hj : ∀ a b : Int, shape_First.f l = some (a, b) → redpencillaw13_faults.j0 (k + 1) l (faultsOf l) a b = some true := by
    intro a b h
    simp only [redpencillaw13_faults.j0, hF, Option.bind_some, refSame_is _ (by omega : (faultsOf l).length ≤ 1000000) k (by omega), if_true, h]
    unfold shape_Well.f
    simp [hF]
  unfold redpencillaw13_faults.f
  by_cases h : ((faultsOf l).length : Int) > 0
  · rw [if_pos h, if_pos (by omega)]
    refine hj _ _ ?_
    unfold shape_First.f
    rw [hF]
    simp only [Option.bind_some]
    rw [if_neg (by omega), if_pos (by omega)]
  · rw [if_neg h]
    refine hj _ _ ?_
    unfold shape_First.f
    rw [hF]
    simp only [Option.bind_some]
    rw [if_pos (by omega)]

/-! ### the whole part: removing what is faulty, again and again, leaves what stands -/
/-- A node that stands: on the root, or on an older node that stands. -/
inductive Stand (l : List Node) : Node → Prop
  | root (x : Node) (hx : x ∈ l) (hr : dotRoot x.f1 = true) : Stand l x
  | up (x p : Node) (hx : x ∈ l) (hp : Stand l p) (hd : p.f0 = x.f1) (ht : p.f2 < x.f2) : Stand l x
theorem Stand.mem {l : List Node} {x : Node} (h : Stand l x) : x ∈ l := by cases h <;> assumption
theorem Stand.mono {l m : List Node} (hs : ∀ x ∈ l, x ∈ m) {x : Node} (h : Stand l x) : Stand m x := by
  induction h with
  | root x hx hr => exact .root x (hs x hx) hr
  | up x p hx _ hd ht ih => exact .up x p (hs x hx) ih hd ht
/-- What is left of a list without the places that p names: the largest first. -/
def keepAt (p : Nat → Bool) : List Node → Nat → List Node
  | [], _ => []
  | x :: l, i => if p i then keepAt p l (i + 1) else x :: keepAt p l (i + 1)
theorem keepAt_append (p : Nat → Bool) (l m : List Node) (i : Nat) : keepAt p (l ++ m) i = keepAt p l i ++ keepAt p m (i + l.length) := by
  induction l generalizing i with
  | nil => simp [keepAt]
  | cons x l ih =>
    simp only [List.cons_append, keepAt, List.length_cons]
    rw [ih, show i + 1 + l.length = i + (l.length + 1) by omega]
    split <;> rfl
theorem faults_foldr (l : List Node) (pre : List Fault) (m : List Node) : dropAt m (bk pre) = pre.foldr (fun f m => m.eraseIdx f.f0.toNat) m := by
  unfold dropAt bk
  rw [List.foldl_reverse, List.foldr_map]
  generalize (0 : Nat) = n
  induction pre generalizing n with
  | nil => rfl
  | cons f pre ih => rw [List.zipIdx_cons, List.foldr_cons, List.foldr_cons, ih]
theorem drop_upto (l : List Node) (a : List (Dot × Nat)) : ∀ (k : Nat) (m : List Node), k ≤ m.length → (faultsUpto l a k).foldr (fun f m => m.eraseIdx f.f0.toNat) m = keepAt (fun i => decide (flawOf l a i ≠ 0)) (m.take k) 0 ++ m.drop k := by
  intro k
  induction k with
  | zero => intro m _; simp [faultsUpto, keepAt]
  | succ k ih =>
    intro m hk
    have hkl : k < m.length := by omega
    rw [faultsUpto_succ, List.take_succ_eq_append_getElem hkl, keepAt_append, List.length_take, Nat.min_eq_left (by omega), Nat.zero_add]
    by_cases hf : flawOf l a k = 0
    · rw [if_pos hf, List.append_nil, ih m (by omega), List.drop_eq_getElem_cons hkl]
      simp [keepAt, hf]
    · rw [if_neg hf, List.foldr_append]
      simp only [List.foldr_cons, List.foldr_nil, Int.toNat_natCast]
      rw [ih _ (by rw [List.length_eraseIdx, if_pos hkl]; omega), List.eraseIdx_eq_take_drop_succ, List.take_left' (by rw [List.length_take]; omega), List.drop_left' (by rw [List.length_take]; omega)]
      simp [keepAt, hf]
theorem dropFaults_is (l : List Node) : dropFaults l = keepAt (fun i => decide (flawOf l (atOf (bk l)) i ≠ 0)) l 0 := by
  unfold dropFaults
  rw [faults_foldr l]
  unfold faultsOf
  rw [drop_upto l _ l.length l (Nat.le_refl _)]
  simp
theorem mem_keepAt {p : Nat → Bool} {l : List Node} {x : Node} {i : Nat} : x ∈ keepAt p l i ↔ ∃ j, l[j]? = some x ∧ p (i + j) = false := by
  induction l generalizing i with
  | nil => simp [keepAt]
  | cons y l ih =>
    rw [keepAt]
    constructor
    · intro h
      split at h
      · obtain ⟨j, hj, hp⟩ := ih.1 h
        exact ⟨j + 1, by simpa using hj, by rw [show i + (j + 1) = i + 1 + j by omega]; exact hp⟩
      · rename_i hp
        rcases List.mem_cons.1 h with rfl | h
        · exact ⟨0, rfl, by simpa using hp⟩
        · obtain ⟨j, hj, hp⟩ := ih.1 h
          exact ⟨j + 1, by simpa using hj, by rw [show i + (j + 1) = i + 1 + j by omega]; exact hp⟩
    · rintro ⟨j, hj, hp⟩
      cases j with
      | zero =>
        simp at hj; subst hj
        rw [Nat.add_zero] at hp
        rw [hp]; simp
      | succ j =>
        have := ih.2 ⟨j, by simpa using hj, by rw [show i + 1 + j = i + (j + 1) by omega]; exact hp⟩
        split
        · exact this
        · exact List.mem_cons_of_mem _ this
theorem keepAt_sublist (p : Nat → Bool) (l : List Node) (i : Nat) : (keepAt p l i).Sublist l := by
  induction l generalizing i with
  | nil => exact List.Sublist.slnil
  | cons x l ih =>
    rw [keepAt]
    split
    · exact (ih _).cons _
    · exact (ih _).cons_cons _
theorem filter_keepAt (p : Nat → Bool) (q : Node → Bool) (l : List Node) (i : Nat) (h : ∀ j x, l[j]? = some x → p (i + j) = true → q x = false) : (keepAt p l i).filter q = l.filter q := by
  induction l generalizing i with
  | nil => rfl
  | cons x l ih =>
    have hr := ih (i + 1) (fun j y hy hp => h (j + 1) y (by simpa using hy) (by rw [show i + (j + 1) = i + 1 + j by omega]; exact hp))
    rw [keepAt]
    split
    · rename_i hp
      rw [hr, List.filter_cons, h 0 x rfl (by simpa using hp)]; simp
    · rw [List.filter_cons, List.filter_cons, hr]
/-- Dots that increase. -/
def Inc (l : List Node) : Prop := l.Pairwise fun a b => dotLt a.f0 b.f0 = true
theorem inc_of {l : List Node} (h : incB (l.map (·.f0)) = true) : Inc l := by
  unfold Inc
  induction l with
  | nil => exact List.Pairwise.nil
  | cons x l ih =>
    cases l with
    | nil => exact List.pairwise_singleton _ _
    | cons y l =>
      simp only [List.map_cons, incB, Bool.and_eq_true] at h
      have hr := ih (by simpa using h.2)
      refine List.pairwise_cons.2 ⟨fun z hz => ?_, hr⟩
      rcases List.mem_cons.1 hz with rfl | hz
      · exact h.1
      · exact dotLt_trans h.1 ((List.pairwise_cons.1 hr).1 z hz)
theorem inc_unique {l : List Node} (h : Inc l) {i j : Nat} {x y : Node} (hx : l[i]? = some x) (hy : l[j]? = some y) (e : x.f0 = y.f0) : i = j := by
  obtain ⟨hi, rfl⟩ := List.getElem?_eq_some_iff.1 hx
  obtain ⟨hj, rfl⟩ := List.getElem?_eq_some_iff.1 hy
  rcases Nat.lt_trichotomy i j with hij | hij | hij
  · have := List.pairwise_iff_getElem.1 h i j hi hj hij
    rw [e, dotLt_irrefl] at this; cases this
  · exact hij
  · have := List.pairwise_iff_getElem.1 h j i hj hi hij
    rw [e, dotLt_irrefl] at this; cases this
theorem idxN_some {l : List Node} {n : Nat} {d : Dot} {k : Nat} (h : idxN l n d = some k) : ∃ x, l[k - n]? = some x ∧ x.f0 = d := by
  induction l generalizing n with
  | nil => cases h
  | cons x l ih =>
    rw [idxN] at h
    split at h
    · rename_i e
      cases h
      exact ⟨x, by simp, e.symm⟩
    · obtain ⟨y, hy, e⟩ := ih h
      have := idxN_lt l _ _ k h
      exact ⟨y, by rw [show k - n = (k - (n + 1)) + 1 by omega]; simpa using hy, e⟩
theorem idxN_none {l : List Node} {n : Nat} {d : Dot} (h : idxN l n d = none) : ∀ x ∈ l, x.f0 ≠ d := by
  induction l generalizing n with
  | nil => intro x hx; cases hx
  | cons y l ih =>
    rw [idxN] at h
    split at h
    · cases h
    · rename_i hne
      intro x hx
      rcases List.mem_cons.1 hx with rfl | hx
      · exact fun e => hne e.symm
      · exact ih h x hx
/-- A node of an allowed list has no flaw just where it stands on the root, or on an older node. -/
theorem flaw_zero {l : List Node} (hok : ∀ x ∈ l, nodeOk x = true) (hinc : Inc l) {i : Nat} {x : Node} (hx : l[i]? = some x) :
    flawOf l (atOf (bk l)) i = 0 ↔ (dotRoot x.f1 = true ∨ ∃ p ∈ l, p.f0 = x.f1 ∧ p.f2 < x.f2) := by
  rw [flawOf_at hx]
  have hm := List.mem_of_getElem? hx
  have hi := (List.getElem?_eq_some_iff.1 hx).1
  rw [if_neg (by rw [hok x hm]; simp)]
  have hstep : 0 < i → ∃ hp : i - 1 < l.length, dotLt l[i - 1].f0 x.f0 = true := fun h0 => by
    have hp : i - 1 < l.length := by omega
    refine ⟨hp, ?_⟩
    have := List.pairwise_iff_getElem.1 hinc (i - 1) i hp hi (by omega)
    rwa [(List.getElem?_eq_some_iff.1 hx).2] at this
  by_cases h0 : 0 < i
  obtain ⟨hp, hlt⟩ := hstep h0
  simp only [List.getElem?_eq_getElem hp, hlt, h0, true_and, Bool.true_eq_false, if_false]
  clear hp hlt
  rotate_left
  simp only [h0, false_and, if_false]
  all_goals
    clear hstep h0
    by_cases hr : dotRoot x.f1 = true
    · simp [hr]
    · rw [if_neg hr, at_bk]
      cases hn : idxN l 0 x.f1 with
      | none =>
        simp only []
        constructor
        · intro h; cases h
        · rintro (h | ⟨p, hp, e, _⟩)
          · exact absurd h hr
          · exact absurd e (idxN_none hn p hp)
      | some k =>
        obtain ⟨p, hp, e⟩ := idxN_some hn
        simp only [Nat.sub_zero] at hp
        simp only [hp]
        constructor
        · intro h
          refine .inr ⟨p, List.mem_of_getElem? hp, e, ?_⟩
          by_cases ht : x.f2 ≤ p.f2
          · simp [ht] at h
          · omega
        · rintro (h | ⟨q, hq, e', ht⟩)
          · exact absurd h hr
          · obtain ⟨j, hj⟩ := List.getElem?_of_mem hq
            have := inc_unique hinc hj hp (e'.trans e.symm)
            subst this
            rw [hp] at hj; cases hj
            rw [if_neg (by simp; omega)]
theorem stand_flaw {l : List Node} (hok : ∀ x ∈ l, nodeOk x = true) (hinc : Inc l) {i : Nat} {x : Node} (hx : l[i]? = some x) (h : Stand l x) : flawOf l (atOf (bk l)) i = 0 := by
  refine (flaw_zero hok hinc hx).2 ?_
  cases h with
  | root _ _ hr => exact .inl hr
  | up _ p _ hp hd ht => exact .inr ⟨p, hp.mem, hd, ht⟩
theorem stand_drop {l : List Node} (hok : ∀ x ∈ l, nodeOk x = true) (hinc : Inc l) (x : Node) : Stand (dropFaults l) x ↔ Stand l x := by
  rw [dropFaults_is]
  constructor
  · exact Stand.mono fun y hy => (keepAt_sublist _ l 0).subset hy
  · intro h
    induction h with
    | root x hx hr =>
      obtain ⟨j, hj⟩ := List.getElem?_of_mem hx
      exact .root x (mem_keepAt.2 ⟨j, hj, by simpa using stand_flaw hok hinc hj (.root x hx hr)⟩) hr
    | up x p hx hp hd ht ih =>
      obtain ⟨j, hj⟩ := List.getElem?_of_mem hx
      exact .up x p (mem_keepAt.2 ⟨j, hj, by simpa using stand_flaw hok hinc hj (.up x p hx hp hd ht)⟩) ih hd ht
theorem faults_none {l : List Node} (h : faultsOf l = []) : ∀ i, i < l.length → flawOf l (atOf (bk l)) i = 0 := by
  have : ∀ k, faultsUpto l (atOf (bk l)) k = [] → ∀ i, i < k → flawOf l (atOf (bk l)) i = 0 := by
    intro k
    induction k with
    | zero => intro _ i hi; omega
    | succ k ih =>
      intro hk i hi
      rw [faultsUpto_succ] at hk
      obtain ⟨h1, h2⟩ := List.append_eq_nil_iff.1 hk
      rcases Nat.lt_succ_iff_lt_or_eq.1 hi with hi | rfl
      · exact ih h1 i hi
      · by_cases hf : flawOf l (atOf (bk l)) i = 0
        · exact hf
        · rw [if_neg hf] at h2; cases h2
  exact this l.length h
theorem all_stand {l : List Node} (hok : ∀ x ∈ l, nodeOk x = true) (hinc : Inc l) (h : faultsOf l = []) : ∀ x ∈ l, Stand l x := by
  have : ∀ (n : Nat) (x : Node), x ∈ l → x.f2.toNat ≤ n → Stand l x := by
    intro n
    induction n with
    | zero =>
      intro x hx hn
      have := hok x hx
      unfold nodeOk at this
      have := of_decide_eq_true this
      omega
    | succ n ih =>
      intro x hx hn
      obtain ⟨j, hj⟩ := List.getElem?_of_mem hx
      rcases (flaw_zero hok hinc hj).1 (faults_none h j (List.getElem?_eq_some_iff.1 hj).1) with hr | ⟨p, hp, hd, ht⟩
      · exact .root x hx hr
      · have h1 := of_decide_eq_true (show decide _ = true from hok p hp)
        have h2 := of_decide_eq_true (show decide _ = true from hok x hx)
        exact .up x p hx (ih p hp (by omega)) hd ht
  exact fun x hx => this _ x hx (Nat.le_refl _)
open Classical in
theorem wholeOf_stand (n : Nat) : ∀ l : List Node, l.length ≤ n → (∀ x ∈ l, nodeOk x = true) → Inc l → wholeOf l = l.filter fun x => decide (Stand l x) := by
  induction n with
  | zero =>
    intro l hl _ _
    have : l = [] := List.length_eq_zero_iff.1 (by omega)
    subst this; rfl
  | succ n ih =>
    intro l hl hok hinc
    by_cases hf : faultsOf l = []
    · rw [wholeOf_nil hf]
      exact (List.filter_eq_self.2 fun x hx => decide_eq_true (all_stand hok hinc hf x hx)).symm
    · have hpos : 0 < (faultsOf l).length := List.length_pos_iff.2 hf
      have hle := faultsOf_length l
      have hd := dropFaults_length l
      have hsub : (dropFaults l).Sublist l := by rw [dropFaults_is]; exact keepAt_sublist _ _ _
      rw [wholeOf_step hf, ih (dropFaults l) (by omega) (fun x hx => hok x (hsub.subset hx)) (hinc.sublist hsub)]
      have e : (fun x => decide (Stand (dropFaults l) x)) = fun x => decide (Stand l x) := by
        funext x; rw [decide_eq_decide]; exact stand_drop hok hinc x
      rw [e, dropFaults_is]
      refine filter_keepAt _ _ l 0 fun j x hx hp => decide_eq_false fun hs => ?_
      rw [Nat.zero_add] at hp
      exact (of_decide_eq_true hp) (stand_flaw hok hinc hx hs)
theorem wholeN_le (l : List Node) : ∀ k, (wholeN k l).length ≤ l.length := by
  intro k
  induction k generalizing l with
  | zero => exact Nat.le_refl _
  | succ k ih =>
    rw [wholeN]
    split
    · exact Nat.le_refl _
    · exact Nat.le_trans (ih _) (by rw [dropFaults_length]; omega)
theorem wholeOf_le (l : List Node) : (wholeOf l).length ≤ l.length := wholeN_le l _

/-! ### long chains with one flaw -/
/-- Node j of a chain. -/
def link (j : Nat) : Node := ⟨⟨1, (j : Int) + 1⟩, if j = 0 then ⟨0, 0⟩ else ⟨1, (j : Int)⟩, (j : Int) + 1, 97⟩
def chain (n : Nat) : List Node := (List.range n).map link
/-- The chain with one node turned: a time that is too early, or a parent that isn't there. -/
def turned (k : Nat) (time : Bool) : Node := if time then { link k with f2 := (k : Int) } else { link k with f1 := ⟨2, 1⟩ }
def chainAt (n k : Nat) (time : Bool) : List Node := (chain n).set k (turned k time)
theorem chain_get {n j : Nat} (h : j < n) : (chain n)[j]? = some (link j) := by
  unfold chain
  rw [List.getElem?_map, List.getElem?_range h]; rfl
theorem chain_length (n : Nat) : (chain n).length = n := by simp [chain]
theorem chainAt_length (n k : Nat) (b : Bool) : (chainAt n k b).length = n := by simp [chainAt, chain_length]
theorem chainAt_get {n k j : Nat} {b : Bool} (h : j < n) : (chainAt n k b)[j]? = some (if j = k then turned k b else link j) := by
  unfold chainAt
  rw [List.getElem?_set, chain_get h]
  by_cases e : k = j
  · subst e; rw [if_pos rfl, chain_length, if_pos h, if_pos rfl]
  · rw [if_neg e, if_neg (fun h => e h.symm)]
theorem link_ok {j : Nat} (h : j < 200) : nodeOk (link j) = true := by
  unfold nodeOk link dotOk dotRoot runeOk
  by_cases e : j = 0
  · subst e; simp
  · rw [if_neg e]
    simp only [decide_eq_true_eq]
    refine ⟨by omega, .inr (by omega), ?_, by omega, by omega, .inr (by decide)⟩
    intro h2
    have := (Dot.ext_iff'.1 h2).2
    simp at this
    omega
theorem turned_ok {k : Nat} (b : Bool) (hk : k < 200) (h0 : b = true → 0 < k) : nodeOk (turned k b) = true := by
  cases b with
  | true =>
    have hk0 := h0 rfl
    unfold turned nodeOk link dotOk dotRoot runeOk
    simp only [if_true]
    rw [if_neg (by omega)]
    simp only [decide_eq_true_eq]
    refine ⟨by omega, .inr (by omega), ?_, by omega, by omega, .inr (by decide)⟩
    intro h2
    have := (Dot.ext_iff'.1 h2).2
    simp at this
    omega
  | false =>
    unfold turned nodeOk link dotOk dotRoot runeOk
    simp only [Bool.false_eq_true, if_false, decide_eq_true_eq]
    refine ⟨by omega, .inr (by decide), ?_, by omega, by omega, .inr (by decide)⟩
    intro h2
    have := (Dot.ext_iff'.1 h2).1
    simp at this
theorem link_dot (j : Nat) : (link j).f0 = ⟨1, (j : Int) + 1⟩ := rfl
theorem turned_dot (k : Nat) (b : Bool) : (turned k b).f0 = ⟨1, (k : Int) + 1⟩ := by cases b <;> rfl
theorem dots_inc {l : List Node} (h : ∀ (j : Nat) (x : Node), l[j]? = some x → x.f0 = ⟨1, (j : Int) + 1⟩) : incB (l.map (·.f0)) = true := by
  have : ∀ (q i : Nat), i + q = l.length → incB ((l.drop i).map (·.f0)) = true := by
    intro q
    induction q with
    | zero => intro i hi; rw [List.drop_of_length_le (by omega)]; rfl
    | succ q ih =>
      intro i hi
      have hn := ih (i + 1) (by omega)
      have hil : i < l.length := by omega
      rw [List.drop_eq_getElem_cons hil]
      by_cases h2 : i + 1 < l.length
      · rw [List.drop_eq_getElem_cons h2] at hn ⊢
        simp only [List.map_cons, incB]
        simp only [List.map_cons] at hn
        rw [hn, h i _ (List.getElem?_eq_getElem hil), h (i + 1) _ (List.getElem?_eq_getElem h2)]
        unfold dotLt
        simp
        omega
      · rw [List.drop_of_length_le (by omega)]; rfl
  simpa using this l.length 0 (by omega)
theorem chainAt_dots (n k : Nat) (b : Bool) : ∀ (j : Nat) (x : Node), (chainAt n k b)[j]? = some x → x.f0 = ⟨1, (j : Int) + 1⟩ := by
  intro j x h
  have hj : j < n := by have := (List.getElem?_eq_some_iff.1 h).1; rwa [chainAt_length] at this
  rw [chainAt_get hj] at h
  cases h
  by_cases e : j = k
  · rw [if_pos e, turned_dot, e]
  · rw [if_neg e]; rfl
theorem chain_dots (n : Nat) : ∀ (j : Nat) (x : Node), (chain n)[j]? = some x → x.f0 = ⟨1, (j : Int) + 1⟩ := by
  intro j x h
  have hj : j < n := by have := (List.getElem?_eq_some_iff.1 h).1; rwa [chain_length] at this
  rw [chain_get hj] at h
  cases h; rfl
theorem chainAt_ok {n k : Nat} {b : Bool} (hn : n ≤ 200) (hk : k < n) (h0 : b = true → 0 < k) : ∀ x ∈ chainAt n k b, nodeOk x = true := by
  intro x hx
  obtain ⟨j, hj⟩ := List.getElem?_of_mem hx
  have hjn : j < n := by have := (List.getElem?_eq_some_iff.1 hj).1; rwa [chainAt_length] at this
  rw [chainAt_get hjn] at hj
  cases hj
  by_cases e : j = k
  · rw [if_pos e]; exact turned_ok b (by omega) h0
  · rw [if_neg e]; exact link_ok (by omega)
theorem chain_ok {n : Nat} (hn : n ≤ 200) : ∀ x ∈ chain n, nodeOk x = true := by
  intro x hx
  obtain ⟨j, hj⟩ := List.getElem?_of_mem hx
  have hjn : j < n := by have := (List.getElem?_eq_some_iff.1 hj).1; rwa [chain_length] at this
  rw [chain_get hjn] at hj
  cases hj; exact link_ok (by omega)
/-- Where a node's parent is a node of the list, it is the one at its place. -/
theorem dot_place {l : List Node} (hd : ∀ (j : Nat) (x : Node), l[j]? = some x → x.f0 = ⟨1, (j : Int) + 1⟩) {p : Node} (hp : p ∈ l) {j : Nat} (e : p.f0 = ⟨1, (j : Int)⟩) : 0 < j ∧ l[j - 1]? = some p := by
  obtain ⟨i, hi⟩ := List.getElem?_of_mem hp
  have h1 := hd i p hi
  rw [e] at h1
  have h2 := (Dot.ext_iff'.1 h1).2
  simp only at h2
  have : j = i + 1 := by omega
  subst this
  exact ⟨by omega, by simpa using hi⟩
theorem stand_chain {n k : Nat} {b : Bool} (hn : n ≤ 200) (hk : k < n) (h0 : b = true → 0 < k) : ∀ (j : Nat) (x : Node), (chainAt n k b)[j]? = some x → (Stand (chainAt n k b) x ↔ j < k) := by
  have hd := chainAt_dots n k b
  have hok := chainAt_ok hn hk h0
  have hinc : Inc (chainAt n k b) := inc_of (dots_inc hd)
  have hnot : ¬ Stand (chainAt n k b) (turned k b) := by
    intro h
    cases h with
    | root _ _ hr =>
      cases b with
      | true =>
        have := h0 rfl
        unfold turned link dotRoot at hr
        simp only [if_true] at hr
        rw [if_neg (by omega)] at hr
        simp at hr
      | false => unfold turned dotRoot at hr; simp at hr
    | up _ p _ hp he ht =>
      cases b with
      | true =>
        have hk0 := h0 rfl
        have he' : p.f0 = ⟨1, (k : Int)⟩ := by rw [he]; unfold turned link; simp only [if_true]; rw [if_neg (by omega)]
        obtain ⟨_, hp'⟩ := dot_place hd hp.mem he'
        rw [chainAt_get (by omega), if_neg (by omega)] at hp'
        cases hp'
        unfold turned link at ht
        simp only [if_true] at ht
        omega
      | false =>
        obtain ⟨i, hi⟩ := List.getElem?_of_mem hp.mem
        have h1 := hd i p hi
        rw [he] at h1
        have h2 := (Dot.ext_iff'.1 h1).1
        unfold turned at h2
        simp at h2
  intro j
  induction j using Nat.strongRecOn with
  | _ j ih =>
    intro x hx
    have hj : j < n := by have := (List.getElem?_eq_some_iff.1 hx).1; rwa [chainAt_length] at this
    have hm := List.mem_of_getElem? hx
    rw [chainAt_get hj] at hx
    by_cases e : j = k
    · rw [if_pos e] at hx
      cases hx
      constructor
      · intro h; exact absurd h hnot
      · omega
    · rw [if_neg e] at hx
      cases hx
      by_cases hz : j = 0
      · constructor
        · intro _; omega
        · intro _; exact .root _ hm (by unfold link dotRoot; rw [if_pos hz]; simp)
      · have hpar : (link j).f1 = ⟨1, (j : Int)⟩ := by unfold link; rw [if_neg hz]
        constructor
        · intro h
          cases h with
          | root _ _ hr => rw [hpar] at hr; unfold dotRoot at hr; simp at hr
          | up _ p _ hp he ht =>
            rw [hpar] at he
            obtain ⟨_, hp'⟩ := dot_place hd hp.mem he
            have := (ih (j - 1) (by omega) p hp').1 hp
            by_cases h2 : j - 1 < k
            · omega
            · omega
        · intro hlt
          have hg : (chainAt n k b)[j - 1]? = some (link (j - 1)) := by rw [chainAt_get (by omega), if_neg (by omega)]
          refine .up _ (link (j - 1)) hm ((ih (j - 1) (by omega) _ hg).2 (by omega)) ?_ ?_
          · rw [hpar, link_dot]; congr 1; omega
          · unfold link; simp only; omega
theorem whole_chainAt {n k : Nat} {b : Bool} (hn : n ≤ 200) (hk : k < n) (h0 : b = true → 0 < k) : wholeOf (chainAt n k b) = (chainAt n k b).take k := by
  classical
  have hd := chainAt_dots n k b
  have hok := chainAt_ok hn hk h0
  rw [wholeOf_stand _ _ (Nat.le_refl _) hok (inc_of (dots_inc hd))]
  have hs := stand_chain hn hk h0
  have : ∀ (l : List Node) (i : Nat), (∀ j x, l[j]? = some x → (Stand (chainAt n k b) x ↔ i + j < k)) → l.filter (fun x => decide (Stand (chainAt n k b) x)) = l.take (k - i) := by
    intro l
    induction l with
    | nil => intro i _; simp
    | cons x l ih =>
      intro i h
      have hr := ih (i + 1) (fun j y hy => by rw [show i + 1 + j = i + (j + 1) by omega]; exact h (j + 1) y (by simpa using hy))
      have hx := h 0 x rfl
      rw [List.filter_cons, hr]
      by_cases hik : i < k
      · rw [if_pos (decide_eq_true (hx.2 (by omega))), show k - i = (k - (i + 1)) + 1 by omega, List.take_succ_cons]
      · rw [if_neg (by simp only [decide_eq_true_eq]; exact fun hst => hik (by have := hx.1 hst; omega)), show k - i = 0 by omega, show k - (i + 1) = 0 by omega]; simp
  exact this (chainAt n k b) 0 (fun j x hx => by rw [Nat.zero_add]; exact hs j x hx)
theorem flaw_link {n k : Nat} {b : Bool} (hn : n ≤ 200) (hk : k < n) (h0 : b = true → 0 < k) {j : Nat} (hj : j < n) (hne : j ≠ k) : flawOf (chainAt n k b) (atOf (bk (chainAt n k b))) j = 0 := by
  have hd := chainAt_dots n k b
  have hok := chainAt_ok hn hk h0
  have hx : (chainAt n k b)[j]? = some (link j) := by rw [chainAt_get hj, if_neg hne]
  refine (flaw_zero hok (inc_of (dots_inc hd)) hx).2 ?_
  by_cases hz : j = 0
  · exact .inl (by unfold link dotRoot; rw [if_pos hz]; simp)
  · have hg : (chainAt n k b)[j - 1]? = some (if j - 1 = k then turned k b else link (j - 1)) := chainAt_get (by omega)
    refine .inr ⟨_, List.mem_of_getElem? hg, ?_, ?_⟩
    · have : (link j).f1 = ⟨1, (j : Int)⟩ := by unfold link; rw [if_neg hz]
      rw [this]
      split
      · rename_i e; rw [turned_dot]; congr 1; omega
      · rw [link_dot]; congr 1; omega
    · split
      · rename_i e
        cases b with
        | true => unfold turned link; simp only [if_true]; omega
        | false => unfold turned link; simp only [Bool.false_eq_true, if_false]; omega
      · unfold link; simp only; omega
theorem flaw_turned {n k : Nat} {b : Bool} (hn : n ≤ 200) (hk : k < n) (h0 : b = true → 0 < k) : flawOf (chainAt n k b) (atOf (bk (chainAt n k b))) k = if b then 4 else 3 := by
  have hd := chainAt_dots n k b
  have hok := chainAt_ok hn hk h0
  have hinc := inc_of (dots_inc hd)
  have hx : (chainAt n k b)[k]? = some (turned k b) := by rw [chainAt_get hk, if_pos rfl]
  have hi : k < (chainAt n k b).length := by rw [chainAt_length]; exact hk
  rw [flawOf_at hx, if_neg (by rw [hok _ (List.mem_of_getElem? hx)]; simp)]
  have hstep : 0 < k → ∃ hp : k - 1 < (chainAt n k b).length, dotLt (chainAt n k b)[k - 1].f0 (turned k b).f0 = true := fun hk0 => by
    have hp : k - 1 < (chainAt n k b).length := by omega
    refine ⟨hp, ?_⟩
    have := List.pairwise_iff_getElem.1 hinc (k - 1) k hp hi (by omega)
    rwa [(List.getElem?_eq_some_iff.1 hx).2] at this
  have hr : dotRoot (turned k b).f1 = false := by
    cases b with
    | true =>
      have := h0 rfl
      unfold turned link dotRoot; simp only [if_true]; rw [if_neg (by omega)]; simp
    | false => unfold turned dotRoot; simp
  have hm : (match idxN (chainAt n k b) 0 (turned k b).f1 with
      | none => (3 : Int)
      | some q => if (match (chainAt n k b)[q]? with | some p => decide ((turned k b).f2 ≤ p.f2) | none => false) = true then 4 else 0) = if b then 4 else 3 := by
    cases b with
    | true =>
      have hk0 := h0 rfl
      cases hn1 : idxN (chainAt n k true) 0 (turned k true).f1 with
      | none =>
        exfalso
        have hg : (chainAt n k true)[k - 1]? = some (link (k - 1)) := by rw [chainAt_get (by omega), if_neg (by omega)]
        refine idxN_none hn1 _ (List.mem_of_getElem? hg) ?_
        rw [link_dot]; unfold turned link; simp only [if_true]; rw [if_neg (by omega)]; congr 1; omega
      | some q =>
        obtain ⟨p, hp, e⟩ := idxN_some hn1
        rw [Nat.sub_zero] at hp
        have e2 : p.f0 = ⟨1, (k : Int)⟩ := by rw [e]; unfold turned link; simp only [if_true]; rw [if_neg (by omega)]
        obtain ⟨_, hp'⟩ := dot_place hd (List.mem_of_getElem? hp) e2
        have hpl : p = link (k - 1) := by
          rw [chainAt_get (by omega), if_neg (by omega)] at hp'; cases hp'; rfl
        simp only [hp, hpl]
        have : (turned k true).f2 ≤ (link (k - 1)).f2 := by unfold turned link; simp only [if_true]; omega
        simp [this]
    | false =>
      cases hn1 : idxN (chainAt n k false) 0 (turned k false).f1 with
      | none => rfl
      | some q =>
        obtain ⟨p, hp, e⟩ := idxN_some hn1
        have h1 := hd _ p hp
        rw [e] at h1
        have := (Dot.ext_iff'.1 h1).1
        unfold turned at this; simp at this
  by_cases hk0 : 0 < k
  obtain ⟨hp, hlt⟩ := hstep hk0
  simp only [List.getElem?_eq_getElem hp, hlt, hk0, true_and, Bool.true_eq_false, if_false, hr, Bool.false_eq_true, at_bk]
  rotate_left
  simp only [hk0, false_and, if_false, hr, Bool.false_eq_true, at_bk]
  all_goals exact hm
theorem faults_chainAt {n k : Nat} {b : Bool} (hn : n ≤ 200) (hk : k < n) (h0 : b = true → 0 < k) : faultsOf (chainAt n k b) = [⟨(k : Int), if b then 4 else 3⟩] := by
  unfold faultsOf
  rw [chainAt_length]
  have : ∀ m, m ≤ n → faultsUpto (chainAt n k b) (atOf (bk (chainAt n k b))) m = if k < m then [⟨(k : Int), if b then 4 else 3⟩] else [] := by
    intro m
    induction m with
    | zero => intro _; rfl
    | succ m ih =>
      intro hm
      rw [faultsUpto_succ, ih (by omega)]
      by_cases e : m = k
      · subst e
        rw [flaw_turned hn hk h0, if_neg (Nat.lt_irrefl m), if_pos (Nat.lt_succ_self m), if_neg (show ¬ (if b = true then (4 : Int) else 3) = 0 by cases b <;> decide)]; rfl
      · rw [flaw_link hn hk h0 (by omega) e, if_pos rfl, List.append_nil]
        by_cases h1 : k < m
        · rw [if_pos h1, if_pos (show k < m + 1 by omega)]
        · rw [if_neg h1, if_neg (show ¬ k < m + 1 by omega)]
  rw [this n (Nat.le_refl _), if_pos hk]
theorem faults_chain {n : Nat} (hn : n ≤ 200) : faultsOf (chain n) = [] := by
  have hd := chain_dots n
  have hok := chain_ok hn
  have hinc := inc_of (dots_inc hd)
  unfold faultsOf
  have : ∀ m, m ≤ n → faultsUpto (chain n) (atOf (bk (chain n))) m = [] := by
    intro m
    induction m with
    | zero => intro _; rfl
    | succ m ih =>
      intro hm
      rw [faultsUpto_succ, ih (by omega)]
      have hx := chain_get (show m < n by omega)
      have : flawOf (chain n) (atOf (bk (chain n))) m = 0 := by
        refine (flaw_zero hok hinc hx).2 ?_
        by_cases hz : m = 0
        · exact .inl (by unfold link dotRoot; rw [if_pos hz]; simp)
        · have hg := chain_get (show m - 1 < n by omega)
          refine .inr ⟨_, List.mem_of_getElem? hg, ?_, ?_⟩
          · have : (link m).f1 = ⟨1, (m : Int)⟩ := by unfold link; rw [if_neg hz]
            rw [this, link_dot]; congr 1; omega
          · unfold link; simp only; omega
      rw [if_pos this]; rfl
  exact this _ (by rw [chain_length]; exact Nat.le_refl _)
theorem whole_chain {n : Nat} (hn : n ≤ 200) : wholeOf (chain n) = chain n := wholeOf_nil (faults_chain hn)

theorem chain_succ (k : Nat) : chain (k + 1) = chain k ++ [link k] := by unfold chain; rw [List.range_succ, List.map_append]; rfl
theorem wrap_i64n {n : Nat} (h : n ≤ 1000000) : IntKind.i64.wrap (n : Int) = (n : Int) := by
  simp only [IntKind.wrap, IntKind.bits, IntKind.signed]
  simp
  omega
theorem cellsOf_set : ∀ (l : List Node) (k j : Nat) (x y : Node) (v : Value), l[k]? = some x → j < 6 → (nodeCells x).set j v = nodeCells y → (cellsOf l).set (k * 6 + j) v = cellsOf (l.set k y)
  | [], k, j, x, y, v, h, _, _ => by simp at h
  | z :: l, 0, j, x, y, v, h, hj, hy => by
    simp only [List.getElem?_cons_zero, Option.some.injEq] at h
    subst h
    rw [Nat.zero_mul, Nat.zero_add, List.set_cons_zero]
    show (nodeCells z ++ cellsOf l).set j v = nodeCells y ++ cellsOf l
    rw [List.set_append_left _ _ (by show j < 6; exact hj), hy]
  | z :: l, k + 1, j, x, y, v, h, hj, hy => by
    have := cellsOf_set l k j x y v (by simpa using h) hj hy
    rw [List.set_cons_succ]
    show (nodeCells z ++ cellsOf l).set ((k + 1) * 6 + j) v = nodeCells z ++ cellsOf (l.set k y)
    rw [List.set_append_right _ _ (by show 6 ≤ _; omega)]
    rw [show (k + 1) * 6 + j - (nodeCells z).length = k * 6 + j by show (k + 1) * 6 + j - 6 = _; omega, this]
/-- One cell of a row of nodes is set. -/
theorem R_setCell {V : World} {base g n cap k j : Nat} {l : List Node} {x y : Node} {v : Value} (h : Kd.R k37 37 V base (fun _ => True) (.slice (some ⟨g, 0, none⟩) n cap) l)
    (hk : l[k]? = some x) (hj : j < 6) (hy : (nodeCells x).set j v = nodeCells y) :
    Kd.R k37 37 (V.setCell ⟨g, k * 6 + j, none⟩ v) base (fun _ => True) (.slice (some ⟨g, 0, none⟩) n cap) (l.set k y) := by
  have hn : n = l.length := (Kd.R_reads' h).1
  subst hn
  obtain ⟨hl, ho⟩ := cells_of_R h
  rcases ho with ⟨h0, _⟩ | ⟨g', cap', cur, he, hbg, hcur, hle, hmx, hsz, htk⟩
  · cases h0
  · cases he
    have hll : (l.set k y).length = l.length := List.length_set
    refine R_of_cells ⟨by rw [cellsOf_length], .inr ⟨g, cap, _, by rw [hll], hbg, blk_set hcur (k * 6 + j) v, by rw [hll]; exact hle, hmx, ?_, ?_⟩⟩ (fun _ _ => trivial)
    · rw [Array.size_setIfInBounds]; exact hsz
    · rw [Array.toList_setIfInBounds, hll, List.take_set, htk]
      exact cellsOf_set l k j x y v hk hj hy
theorem C_take {V : World} {A : Option Addr} {n m : Nat} {l : List Node} (h : Kd.C k37 V A n l) (hm : m ≤ n) : Kd.C k37 V A m (l.take m) := by
  obtain ⟨h1, h2, h3⟩ := h
  refine ⟨by rw [List.length_take]; omega, by omega, fun hp => ?_⟩
  obtain ⟨a, e, ha⟩ := h3 (by omega)
  refine ⟨a, e, fun i x hi => ha i x ?_⟩
  rw [List.getElem?_take] at hi
  split at hi
  · exact hi
  · cases hi
theorem store_chain {n : Nat} (hn : n ≤ 200) : storeOk (chain n) = true := by
  unfold storeOk
  rw [dots_inc (chain_dots n), Bool.and_true, List.all_eq_true]
  exact chain_ok hn
theorem store_chainAt {n k : Nat} {b : Bool} (hn : n ≤ 200) (hk : k < n) (h0 : b = true → 0 < k) : storeOk (chainAt n k b) = true := by
  unfold storeOk
  rw [dots_inc (chainAt_dots n k b), Bool.and_true, List.all_eq_true]
  exact chainAt_ok hn hk h0
theorem lawWhole_ok (l m : List Node) (hl : l.length ≤ 1000000) (hs : storeOk l = true) (hm : wholeOf l = m) (k : Nat) (hk : l.length + 1 < k) : redpencillaw13_whole.f k l m 0 = some true := by
  obtain ⟨k, rfl⟩ : ∃ q, k = q + 1 := ⟨k - 1, by omega⟩
  subst hm
  have hw : (wholeOf l).length ≤ l.length := wholeOf_le l
  unfold redpencillaw13_whole.f shape_Whole.f
  rw [if_pos hl, if_pos hs]
  simp only [Option.bind_some]
  rw [refEqual_is _ _ (by omega) (k + 1) (by omega)]
  simp
/-- A row of the call's own grows by others' nodes. -/
theorem app_more {ops : Array Oper} {Q : Exit → Act → World → Prop} {o : Oper} {rest : List Oper} {a : Act} {W : World} (w : World) (hgd : o.guard = none) (x y : Operand)
    (ho : o.op = .call { callee := .builtin .append, args := #[x, y], argTypes := #[22, 22] }) (v : Value) (xs : List Node) (A : Option Addr) (ys : List Node) (n c : Nat) (hn : ys.length = n) (hx : a.eval x = v) (hy : a.eval y = .slice A n c)
    (hr : Kd.R k37 37 W w.heap.size (fun _ => True) v xs) (hc : Kd.C k37 W A n ys) (hb : Below w.heap.size w W) (hl : xs.length + n ≤ 1000000)
    (h : ∀ v1 w1, Kd.R k37 37 w1 w.heap.size (fun _ => True) v1 (xs ++ ys) → Below w.heap.size w w1 → wpList Tryd.prog ops Q rest (a.put o.dst v1) w1) : wpList Tryd.prog ops Q (o :: rest) a W := by
  subst hn
  refine Kd.R_append_rows k37 (w0 := w) w.heap.size hgd x y 22 37 (.agg #[(.int .i64 0), (.int .i64 0), (.int .i64 0), (.int .i64 0), (.int .i64 0), (.int .i32 0)]) 48 ho Tryd.underlying22 info37 rfl (by decide) (by decide) v xs ys A ys.length c (fun _ => True) (fun _ => False) hx hy hr hc (fun x cs h => (by rw [k37_open h]; exact k37_mkM _ _ _ x)) (fun _ hk => hk.elim) (fun _ _ => trivial) hb hb.size (by omega) ?_
  intro v1 w1 ho hb _ _
  exact h v1 w1 ho hb
theorem lit_nodesC (W : World) (g : Nat) (hg : W.heap.size = g) (xs : List Node) (n : Nat) (hn : xs.length = n) (hp : 0 < n) (hm : n ≤ 1000000) (cs : Array Value) (hcs : cs.toList = cellsOf xs) :
    Kd.C k37 (W.alloc (.cells cs 37 (0, 0))) (some ⟨g, 0, none⟩) n xs := by
  subst hg hn
  exact (Kd.R_reads' (lit_nodes W 0 (Nat.zero_le _) xs _ rfl hp hm cs hcs)).2.2
theorem lit_faultsC (W : World) (g : Nat) (hg : W.heap.size = g) (xs : List Fault) (n : Nat) (hn : xs.length = n) (hp : 0 < n) (hm : n ≤ 1000000) (cs : Array Value) (hcs : cs.toList = cellsOfF xs) :
    Kd.C k44 (W.alloc (.cells cs 44 (0, 0))) (some ⟨g, 0, none⟩) n xs := by
  subst hg hn
  exact (Kd.R_reads' (lit_faults W 0 (Nat.zero_le _) xs _ rfl hp hm cs hcs)).2.2
theorem below_setCell {w W : World} (h : Below w.heap.size w W) {g : Nat} (hg : w.heap.size ≤ g) (i : Nat) (v : Value) : Below w.heap.size w (W.setCell ⟨g, i, none⟩ v) :=
  h.grown (grown_set (V := W) (W := W) ⟨rfl, rfl, rfl, Nat.le_refl _, fun _ _ _ => rfl⟩ _ _) h.size (fun j e => by cases e; exact hg)
theorem chain_faults {V : World} {A A' : Option Addr} {c n c' m : Nat} {xs : List Node} {fs : List Fault} (hn : xs.length = n) (hm : fs.length = m) (hC : Kd.C k37 V A xs.length xs) (hcc : n ≤ c) (hC' : Kd.C k44 V A' m fs) (hcc' : m ≤ c') (hf : faultsOf xs = fs) (hl : n ≤ 200) :
    Calls Tryd.prog 9 #[.slice A n c, .slice A' m c'] V fun e W => e = .returned (.bool true) ∧ Below V.heap.size V W := by
  subst hn hm hf
  exact redpencillaw13_faults.calls 1000 A c xs A' c' (faultsOf xs) true V hC hcc hC' hcc' (lawFaults_is xs (by omega) 1000 (by omega))
theorem chain_whole {V : World} {A A' : Option Addr} {c n c' m : Nat} {xs ys : List Node} (hn : xs.length = n) (hm : ys.length = m) (hC : Kd.C k37 V A xs.length xs) (hcc : n ≤ c) (hC' : Kd.C k37 V A' m ys) (hcc' : m ≤ c') (hs : storeOk xs = true) (hf : wholeOf xs = ys) (hl : n ≤ 200) :
    Calls Tryd.prog 13 #[.slice A n c, .slice A' m c', .int .i64 0] V fun e W => e = .returned (.bool true) ∧ Below V.heap.size V W := by
  subst hn hm
  exact redpencillaw13_whole.calls 1000 A c xs A' c' ys 0 true V hC hcc hC' hcc' (lawWhole_ok xs ys (by omega) hs hf 1000 (by omega))
theorem chainAt_take_length {n k : Nat} {b : Bool} (h : k < n) : ((chainAt n k b).take k).length = k := by rw [List.length_take, chainAt_length]; omega
/-- A cell of a row of nodes of the call's own. -/
theorem R_cell {W : World} {base g n c k j : Nat} {xs : List Node} {x : Node} (h : Kd.R k37 37 W base (fun _ => True) (.slice (some ⟨g, 0, none⟩) n c) xs) (hk : xs[k]? = some x) (hj : j < 6) :
    W.cell? ⟨g, k * 6 + j, none⟩ = (nodeCells x)[j]? ∧ W.frozen? ⟨g, k * 6 + j, none⟩ = false := by
  have hn : n = xs.length := (Kd.R_reads' h).1
  subst hn
  have hk2 : k < xs.length := (List.getElem?_eq_some_iff.1 hk).1
  obtain ⟨hl, ho⟩ := cells_of_R h
  rcases ho with ⟨h0, _⟩ | ⟨g', cap', cur, he, hbg, hcur, hle, hmx, hsz, htk⟩
  · cases h0
  · cases he
    refine ⟨?_, blk_frozen hcur _⟩
    have h4 := congrArg (·[j]?) (cellsOf_drop_take xs k _ hk)
    simp only [List.getElem?_take, List.getElem?_drop] at h4
    rw [if_pos (by omega), ← htk, List.getElem?_take, if_pos (by show k * 6 + j < xs.length * 6; omega)] at h4
    rw [← h4]
    exact (blk_cell hcur _).trans (by rw [← Array.getElem?_toList])

/-! ### FormChains -/
set_option maxHeartbeats 2000000 in
set_option maxRecDepth 100000 in
theorem FormChains.walk (many which what : Int) (hm : 0 ≤ many ∧ many ≤ 255) (hc : 0 ≤ which ∧ which ≤ 255) (ha : 0 ≤ what ∧ what ≤ 255) (w : World) (hw : WordsAt w) :
    Calls Tryd.prog 6 #[.int .u8 many, .int .u8 which, .int .u8 what] w fun e w' => e = .returned (.bool true) ∧ Below w.heap.size w w' := by
  have HW := Aside0.mk hw
  clear hw
  by_cases hout : many < 1 ∨ many > 200
  · have hk : ∀ W, Below w.heap.size w W → Calls Tryd.prog 8 #[] W fun e w' => e = .returned (.bool true) ∧ Below W.heap.size W w' := fun W hb => known.walk W (HW.out.below hb)
    have HK := Aside0.mk hk
    clear hk
    rcases hout with h | h
    · go_enter Tryd.func6, Tryd.ntmps6
      have hb1 : decide (many < 1) = true := decide_eq_true h
      go_wp2_with fail
      refine (HK.out w (Below.refl _ _)).mono ?_
      rintro e W3 ⟨rfl, hd⟩
      go_wp2_with fail
      go_ret
      exact ⟨rfl, hd⟩
    · have hb0 : decide (many < 1) = false := decide_eq_false (by omega)
      have hb1 : decide (200 < many) = true := decide_eq_true (by omega)
      go_enter Tryd.func6, Tryd.ntmps6
      go_wp2_with fail
      refine (HK.out w (Below.refl _ _)).mono ?_
      rintro e W3 ⟨rfl, hd⟩
      go_wp2_with fail
      go_ret
      exact ⟨rfl, hd⟩
  · obtain ⟨n, rfl⟩ : ∃ n : Nat, many = n := ⟨many.toNat, by omega⟩
    have hb0 : decide ((n : Int) < 1) = false := decide_eq_false (by omega)
    have hb1 : decide (200 < (n : Int)) = false := decide_eq_false (by omega)
    have hn1 : 1 ≤ n := by omega
    have hn2 : n ≤ 200 := by omega
    clear hout hm
    go_enter Tryd.func6, Tryd.ntmps6
    go_wp2
    go_loopw [7, 8] (fun v i wr => ∃ k : Nat, k ≤ n ∧ i = .int .i64 ((k + 1 : Nat) : Int) ∧ Aside0 (Kd.R k37 37 wr w.heap.size (fun _ => True) v (chain k)) ∧ Aside0 (Below w.heap.size w wr)) (fun _ i _ => n + 1 - (intOf i).toNat)
    case atStart => exact ⟨0, Nat.zero_le _, rfl, ⟨Kd.R_nil _ _ _ _ _⟩, ⟨Below.refl _ _⟩⟩
    case round =>
      obtain ⟨k, hk, rfl, HO, HB⟩ := hrel
      by_cases hlt : k < n
      · have hw0 : IntKind.i64.wrap (n : Int) = (n : Int) := wrap_i64n (by omega)
        have hle : decide (((k + 1 : Nat) : Int) ≤ (n : Int)) = true := decide_eq_true (by omega)
        have hi1 : wrap64 (((k + 1 : Nat) : Int) - 1) = (k : Int) := by unfold wrap64; omega
        go_wp2_with fail
        refine (redpencillaw13_at.calls _ _ _ _ wr rfl).mono ?_
        rintro e w1 ⟨rfl, hb1⟩
        have HO := Aside0.mk (Kd.R_below HO.out hb1)
        have HB := Aside0.mk (below_more HB.out hb1)
        clear hb1
        go_wp2_with fail
        refine (redpencillaw13_at.calls _ _ _ _ w1 rfl).mono ?_
        rintro e w2 ⟨rfl, hb1⟩
        have HO := Aside0.mk (Kd.R_below HO.out hb1)
        have HB := Aside0.mk (below_more HB.out hb1)
        clear hb1
        go_wp2_with fail
        refine (redpencillaw13_of.calls _ _ _ _ _ _ _ _ _ _ _ _ w2 rfl).mono ?_
        rintro e w3 ⟨rfl, hb1⟩
        have HO := Aside0.mk (Kd.R_below HO.out hb1)
        have HB := Aside0.mk (below_more HB.out hb1)
        clear hb1
        have hcl : (chain k).length = k := chain_length k
        by_cases hz : k = 0
        · subst hz
          go_wp2_with (at_builtin; refine app_more w rfl (.tmp 35) (.tmp 37) rfl _ (chain 0) _ [link 0] 1 1 rfl rfl rfl (Kd.R_below HO.out (((Below.refl _ w3).alloc (Nat.le_refl _) _).alloc (by simp) _)) (lit_nodesC _ _ (by simp) [link 0] 1 rfl (by decide) (by decide) _ rfl) (below_alloc (below_alloc HB.out _) _) (by omega) ?_; intro v2 w4 ho hb)
          exact ⟨⟨1, by omega, rfl, ⟨by rw [show chain 1 = chain 0 ++ [link 0] from chain_succ 0]; exact ho⟩, ⟨hb⟩⟩, by simp [intOf]; omega⟩
        · have hzb : (((k + 1 : Nat) : Int) == 1) = false := beq_eq_false_iff_ne.2 (by omega)
          have hzc : ((k : Int) + 1 == 1) = false := beq_eq_false_iff_ne.2 (by omega)
          go_wp2_with (at_builtin; refine app_more w rfl (.tmp 35) (.tmp 37) rfl _ (chain k) _ [link k] 1 1 rfl rfl rfl (Kd.R_below HO.out (((Below.refl _ w3).alloc (Nat.le_refl _) _).alloc (by simp) _)) (lit_nodesC _ _ (by simp) [link k] 1 rfl (by decide) (by decide) _ (by simp [cellsOf, nodeCells, link, hz])) (below_alloc (below_alloc HB.out _) _) (by omega) ?_; intro v2 w4 ho hb)
          exact ⟨⟨k + 1, by omega, by go_num, ⟨by rw [chain_succ k]; exact ho⟩, ⟨hb⟩⟩, by simp [intOf]; omega⟩
      · obtain rfl : k = n := by omega
        have hle : decide (((k + 1 : Nat) : Int) ≤ (k : Int)) = false := decide_eq_false (by omega)
        obtain ⟨A, c, hv, hcc, hC⟩ := Kd.R_reads HO.out
        rw [chain_length] at hv hcc hC
        subst hv
        have HC := Aside0.mk hC
        have HCC := Aside0.mk hcc
        clear hcc hC
        obtain ⟨q, Hq⟩ : ∃ q : Nat, Aside0 ((which : Int) % k = q) := ⟨((which : Int) % k).toNat, ⟨by rw [Int.toNat_of_nonneg (Int.emod_nonneg _ (by omega))]⟩⟩
        have hq : q < k := by have := Hq.out; have := Int.emod_lt_of_pos which (show (0 : Int) < k by omega); omega
        have hrem : which.tmod k = q := by rw [← Hq.out]; exact Int.tmod_eq_emod_of_nonneg hc.1
        have hkz : ((k : Int) == 0) = false := beq_eq_false_iff_ne.2 (by omega)
        obtain ⟨g, cap, hA, hgw, _⟩ := Kd.R_form HO.out (by rw [chain_length]; omega)
        rw [chain_length] at hA
        cases hA
        have HG := Aside0.mk hgw
        clear hgw
        by_cases h1 : what = 0 ∧ 0 < q
        · obtain ⟨rfl, h1⟩ := h1
          obtain ⟨r, rfl⟩ : ∃ r, q = r + 1 := ⟨q - 1, by omega⟩
          have hqb : decide ((((r + 1 : Nat) : Int)) > 0) = true := decide_eq_true (by omega)
          have hqb2 : decide ((0 : Int) < ((r + 1 : Nat) : Int)) = true := decide_eq_true (by omega)
          have hct : wr.cell? ⟨g, r * 6 + 4, none⟩ = some (.int .i64 ((r : Int) + 1)) := (R_cell HO.out (chain_get (show r < k by omega)) (j := 4) (by decide)).1
          obtain ⟨hct2, hfz⟩ := R_cell HO.out (chain_get hq) (j := 4) (by decide)
          have hct2 : wr.cell? ⟨g, (r + 1) * 6 + 4, none⟩ = some (.int .i64 (((r + 1 : Nat) : Int) + 1)) := hct2
          have hi1 : wrap64 (((r + 1 : Nat) : Int) - 1) = (r : Int) := by unfold wrap64; omega
          have HR1 := Aside0.mk (R_setCell HO.out (chain_get hq) (j := 4) (by decide) (v := .int .i64 ((r : Int) + 1)) (y := turned (r + 1) true) (by simp [nodeCells, turned, link]))
          have HB1 := Aside0.mk (below_setCell HB.out HG.out ((r + 1) * 6 + 4) (.int .i64 ((r : Int) + 1)))
          clear HO HB
          have HR1 : Aside0 (Kd.R k37 37 _ w.heap.size (fun _ => True) (.slice (some ⟨g, 0, none⟩) k c) (chainAt k (r + 1) true)) := HR1
          have hVs : (wr.setCell ⟨g, (r + 1) * 6 + 4, none⟩ (.int .i64 ((r : Int) + 1))).heap.size = wr.heap.size := (by simp)
          go_wp2_with fail
          generalize wr.setCell ⟨g, (r + 1) * 6 + 4, none⟩ (.int .i64 ((r : Int) + 1)) = V1 at *
          have HO2 := Aside0.mk (fun o => Kd.R_below HR1.out ((Below.refl _ V1).alloc (Nat.le_refl _) o))
          have HB2 := Aside0.mk (fun o => below_alloc HB1.out o)
          refine (chain_faults (chainAt_length _ _ _) rfl (Kd.R_reads' (HO2.out _)).2.2 HCC.out (lit_faultsC V1 _ hVs [⟨(r : Int) + 1, 4⟩] 1 rfl (by decide) (by decide) _ rfl) (Nat.le_refl _) (by rw [faults_chainAt hn2 hq (fun _ => h1)]; simp) hn2).mono ?_
          rintro e w4 ⟨rfl, hb4⟩
          have HO4 := Aside0.mk (Kd.R_below (HO2.out _) hb4)
          have HB4 := Aside0.mk (below_more (HB2.out _) hb4)
          have hqc : (r + 1) ≤ c := by have := HCC.out; omega
          clear hb4 HO2 HB2 HR1 HB1
          go_wp2_with fail
          refine (chain_whole (chainAt_length _ _ _) (chainAt_take_length hq) (Kd.R_reads' HO4.out).2.2 HCC.out (C_take (Kd.R_reads' HO4.out).2.2 (by rw [chainAt_length]; omega)) hqc (store_chainAt hn2 hq (fun _ => h1)) (whole_chainAt hn2 hq (fun _ => h1)) hn2).mono ?_
          rintro e w5 ⟨rfl, hb5⟩
          have HB5 := Aside0.mk (below_more HB4.out hb5)
          clear hb5
          go_wp2_with fail
          refine (known.walk _ (HW.out.below HB5.out)).mono ?_
          rintro e w6 ⟨rfl, hb6⟩
          have HB6 := Aside0.mk (below_more HB5.out hb6)
          clear hb6
          go_wp2_with fail
          go_ret
          exact ⟨rfl, HB6.out⟩
        · by_cases h2 : what = 1
          · subst h2
            go_wp2_with fail
            refine (redpencillaw13_at.calls _ _ _ _ wr rfl).mono ?_
            rintro e w1 ⟨rfl, hb1⟩
            have HO := Aside0.mk (Kd.R_below HO.out hb1)
            have HB := Aside0.mk (below_more HB.out hb1)
            clear hb1
            obtain ⟨hc1, hf1⟩ := R_cell HO.out (chain_get hq) (j := 2) (by decide)
            have hc1 : w1.cell? ⟨g, q * 6 + 2, none⟩ = some (.int .i64 (link q).f1.f0) := hc1
            have HO1 := R_setCell HO.out (chain_get hq) (j := 2) (by decide) (v := .int .i64 2) (y := { link q with f1 := ⟨2, (link q).f1.f1⟩ }) rfl
            have hg1 : ((chain k).set q { link q with f1 := ⟨2, (link q).f1.f1⟩ })[q]? = some { link q with f1 := ⟨2, (link q).f1.f1⟩ } := by rw [List.getElem?_set]; simp [chain_length, hq]
            obtain ⟨hc2, hf2⟩ := R_cell HO1 hg1 (j := 3) (by decide)
            have hc2 : (w1.setCell ⟨g, q * 6 + 2, none⟩ (.int .i64 2)).cell? ⟨g, q * 6 + 2 + 1, none⟩ = some (.int .i64 (link q).f1.f1) := hc2
            have hf2 : (w1.setCell ⟨g, q * 6 + 2, none⟩ (.int .i64 2)).frozen? ⟨g, q * 6 + 2 + 1, none⟩ = false := hf2
            have HR1 := Aside0.mk (R_setCell HO1 hg1 (j := 3) (by decide) (v := .int .i64 1) (y := turned q false) rfl)
            have HB1 := Aside0.mk (below_setCell (below_setCell HB.out HG.out (q * 6 + 2) (.int .i64 2)) HG.out (q * 6 + 3) (.int .i64 1))
            rw [List.set_set] at HR1
            clear HO HB HO1 hg1
            have HR1 : Aside0 (Kd.R k37 37 _ w.heap.size (fun _ => True) (.slice (some ⟨g, 0, none⟩) k c) (chainAt k q false)) := HR1
            have hVs : ((w1.setCell ⟨g, q * 6 + 2, none⟩ (.int .i64 2)).setCell ⟨g, q * 6 + 2 + 1, none⟩ (.int .i64 1)).heap.size = w1.heap.size := (by simp)
            go_wp2_with (simp only [Result.andThen_ok, hc2, hf2, Bool.false_eq_true, if_false])
            generalize (w1.setCell ⟨g, q * 6 + 2, none⟩ (.int .i64 2)).setCell ⟨g, q * 6 + 2 + 1, none⟩ (.int .i64 1) = V1 at *
            have HO2 := Aside0.mk (fun o => Kd.R_below HR1.out ((Below.refl _ V1).alloc (Nat.le_refl _) o))
            have HB2 := Aside0.mk (fun o => below_alloc HB1.out o)
            refine (chain_faults (chainAt_length _ _ _) rfl (Kd.R_reads' (HO2.out _)).2.2 HCC.out (lit_faultsC V1 _ hVs [⟨(q : Int), 3⟩] 1 rfl (by decide) (by decide) _ rfl) (Nat.le_refl _) (by rw [faults_chainAt hn2 hq (fun h => by cases h)]; simp) hn2).mono ?_
            rintro e w4 ⟨rfl, hb4⟩
            have HO4 := Aside0.mk (Kd.R_below (HO2.out _) hb4)
            have HB4 := Aside0.mk (below_more (HB2.out _) hb4)
            have hqc : q ≤ c := by have := HCC.out; omega
            clear hb4 HO2 HB2 HR1 HB1
            go_wp2_with fail
            refine (chain_whole (chainAt_length _ _ _) (chainAt_take_length hq) (Kd.R_reads' HO4.out).2.2 HCC.out (C_take (Kd.R_reads' HO4.out).2.2 (by rw [chainAt_length]; omega)) hqc (store_chainAt hn2 hq (fun h => by cases h)) (whole_chainAt hn2 hq (fun h => by cases h)) hn2).mono ?_
            rintro e w5 ⟨rfl, hb5⟩
            have HB5 := Aside0.mk (below_more HB4.out hb5)
            clear hb5
            go_wp2_with fail
            refine (known.walk _ (HW.out.below HB5.out)).mono ?_
            rintro e w6 ⟨rfl, hb6⟩
            have HB6 := Aside0.mk (below_more HB5.out hb6)
            clear hb6
            go_wp2_with fail
            go_ret
            exact ⟨rfl, HB6.out⟩
          · by_cases h0 : what = 0
            · subst h0
              obtain rfl : q = 0 := by omega
              go_wp2_with fail
              refine (chain_faults (chain_length _) rfl (Kd.R_reads' HO.out).2.2 HCC.out ⟨rfl, by decide, fun h => absurd h (by decide)⟩ (Nat.le_refl _) (faults_chain hn2) hn2).mono ?_
              rintro e w4 ⟨rfl, hb4⟩
              have HO4 := Aside0.mk (Kd.R_below HO.out hb4)
              have HB4 := Aside0.mk (below_more HB.out hb4)
              clear hb4 HO HB
              go_wp2_with fail
              have hC5 := (Kd.R_reads' HO4.out).2.2
              rw [chain_length] at hC5
              refine (chain_whole (chain_length _) (chain_length _) (Kd.R_reads' HO4.out).2.2 HCC.out hC5 HCC.out (store_chain hn2) (whole_chain hn2) hn2).mono ?_
              clear hC5
              rintro e w5 ⟨rfl, hb5⟩
              have HB5 := Aside0.mk (below_more HB4.out hb5)
              clear hb5
              go_wp2_with fail
              refine (known.walk _ (HW.out.below HB5.out)).mono ?_
              rintro e w6 ⟨rfl, hb6⟩
              have HB6 := Aside0.mk (below_more HB5.out hb6)
              clear hb6
              go_wp2_with fail
              go_ret
              exact ⟨rfl, HB6.out⟩
            · have hw0 : (what == 0) = false := beq_eq_false_iff_ne.2 h0
              have hw1 : (what == 1) = false := beq_eq_false_iff_ne.2 h2
              go_wp2_with fail
              refine (chain_faults (chain_length _) rfl (Kd.R_reads' HO.out).2.2 HCC.out ⟨rfl, by decide, fun h => absurd h (by decide)⟩ (Nat.le_refl _) (faults_chain hn2) hn2).mono ?_
              rintro e w4 ⟨rfl, hb4⟩
              have HO4 := Aside0.mk (Kd.R_below HO.out hb4)
              have HB4 := Aside0.mk (below_more HB.out hb4)
              clear hb4 HO HB
              go_wp2_with fail
              have hC5 := (Kd.R_reads' HO4.out).2.2
              rw [chain_length] at hC5
              refine (chain_whole (chain_length _) (chain_length _) (Kd.R_reads' HO4.out).2.2 HCC.out hC5 HCC.out (store_chain hn2) (whole_chain hn2) hn2).mono ?_
              clear hC5
              rintro e w5 ⟨rfl, hb5⟩
              have HB5 := Aside0.mk (below_more HB4.out hb5)
              clear hb5
              go_wp2_with fail
              refine (known.walk _ (HW.out.below HB5.out)).mono ?_
              rintro e w6 ⟨rfl, hb6⟩
              have HB6 := Aside0.mk (below_more HB5.out hb6)
              clear hb6
              go_wp2_with fail
              go_ret
              exact ⟨rfl, HB6.out⟩

end Go.Proofs.YtjlpaagnajmogaaDoor.PForm
