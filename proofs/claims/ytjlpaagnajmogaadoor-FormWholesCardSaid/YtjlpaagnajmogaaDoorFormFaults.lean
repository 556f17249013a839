/-
  The walk of the law FormFaults: it answers true for every slice of nodes, wherever it lies, in any world that holds the words.
-/
import Derived.Test.YtjlpaagnajmogaaDoorKnown
import Derived.Test.YtjlpaagnajmogaaDoorPFormx11
namespace Go.Proofs.YtjlpaagnajmogaaDoor.PForm
open Go.RowKit Go.Proofs.YtjlpaagnajmogaaDoorW.PrintWords Go.Proofs.YtjlpaagnajmogaaDoorW.PrintLast Go.Proofs.YtjlpaagnajmogaaDoorW.PrintMore
set_option linter.unusedVariables false
set_option linter.unusedSimpArgs false
open Go.Shelf
attribute [local go_sem] Oper.semAt_some
/-! ### the document's answers, layer 13: faults -/
/-- A rune that the machine can hold. -/
def runeIn (r : Int) : Prop := -9223372036854775808 ≤ r ∧ r ≤ 9223372036854775807
theorem refDot_is (a b : Int) : redpencilref04_Valid.f a b = some (dotOk ⟨a, b⟩) := by
  unfold redpencilref04_Valid.f dotOk
  by_cases h0 : a > 0 <;> by_cases h1 : a ≤ 64 <;> by_cases h2 : b > 0 <;> by_cases h3 : b ≤ 4294967295 <;> simp [h0, h1, h2, h3] <;> omega
theorem refRoot_is (a b : Int) : redpencilref04_Root.f a b = some (dotRoot ⟨a, b⟩) := by
  unfold redpencilref04_Root.f dotRoot
  by_cases h0 : a = 0 <;> by_cases h1 : b = 0 <;> simp [h0, h1]
theorem refLess_is (a b : Dot) : redpencilref04_Less.f a.f0 a.f1 b.f0 b.f1 = some (dotLt a b) := by
  unfold redpencilref04_Less.f dotLt
  by_cases h0 : a.f1 = b.f1
  · simp [h0]
  · rw [if_neg h0]; congr 1; simp [h0]
theorem refRune_is (r : Int) (h : runeIn r) : redpencilref02_Valid.f r = some (runeOk r) := by
  unfold redpencilref02_Valid.f redpencilref02_scalar.f runeOk
  have hw : wrap64 r = r := by unfold wrap64; have := h.1; have := h.2; omega
  rw [hw]
  by_cases h0 : r = 0
  · simp [h0]
  · by_cases h1 : r ≥ 0 <;> by_cases h2 : r ≤ 1114111 <;> by_cases h3 : r < 55296 <;> by_cases h4 : r > 57343 <;> simp [h0, h1, h2, h3, h4] <;> omega
theorem refNode_is (x : Node) (h : runeIn x.f3) : redpencilref09_Valid.f x.f0.f0 x.f0.f1 x.f1.f0 x.f1.f1 x.f2 x.f3 = some (nodeOk x) := by
  unfold redpencilref09_Valid.f nodeOk
  simp only [refDot_is, refRoot_is, refRune_is _ h, Option.bind_some]
  have e : ((x.f0.f0 == x.f1.f0 && (x.f0.f1 == x.f1.f1)) = true) ↔ ¬ x.f1 ≠ x.f0 := by
    rw [Ne, Dot.ext_iff']; simp; omega
  simp only [e]
  by_cases h1 : dotOk x.f0 = true
  · by_cases h4 : x.f1 ≠ x.f0
    · by_cases h5 : x.f2 > 0
      · have h5' : 1 ≤ x.f2 := by omega
        by_cases h6 : x.f2 ≤ 4611686018427387904
        · cases h2 : dotRoot x.f1 <;> cases h3 : dotOk x.f1 <;> cases h8 : runeOk x.f3 <;> by_cases h7 : x.f3 = 0 <;> simp [h1, h2, h3, h4, h5, h5', h6, h7, h8]
        · cases h2 : dotRoot x.f1 <;> cases h3 : dotOk x.f1 <;> simp [h1, h2, h3, h4, h5, h6]
      · have h5' : ¬ 1 ≤ x.f2 := by omega
        cases h2 : dotRoot x.f1 <;> cases h3 : dotOk x.f1 <;> simp [h1, h2, h3, h4, h5, h5']
    · cases h2 : dotRoot x.f1 <;> cases h3 : dotOk x.f1 <;> simp [h1, h2, h3, h4]
  · simp [h1]
/-- The first node with a dot. -/
def idxN : List Node → Nat → Dot → Option Nat
  | [], _, _ => none
  | x :: l, n, d => if d = x.f0 then some n else idxN l (n + 1) d
theorem at_bk (l : List Node) (d : Dot) : MapLaw.mget (atOf (bk l)) d = idxN l 0 d := by
  have hb : atOf (bk l) = (l.zipIdx.map fun p => (p.2, p.1)).foldr (fun p m => MapLaw.mset m p.2.f0 p.1) [] := by
    exact List.foldl_reverse
  rw [hb]
  clear hb
  generalize (0 : Nat) = n
  induction l generalizing n with
  | nil => rfl
  | cons x l ih =>
    rw [List.zipIdx_cons, List.map_cons, List.foldr_cons, MapLaw.mget_mset, ih, idxN]
theorem idxN_lt (l : List Node) (n : Nat) (d : Dot) (k : Nat) (h : idxN l n d = some k) : n ≤ k ∧ k < n + l.length := by
  induction l generalizing n with
  | nil => cases h
  | cons x l ih =>
    rw [idxN] at h
    split at h
    · cases h; simp
    · have := ih _ h; simp; omega
theorem rdN {l : List Node} {i : Nat} (h : i < l.length) : rd_T37 l (i : Int) = l[i] := by simp [rd_T37, h]
theorem rdF {l : List Fault} {i : Nat} (h : i < l.length) : rd_T44 l (i : Int) = l[i] := by simp [rd_T44, h]
theorem wrap_succ {i n : Nat} (h : i < n) (hn : n ≤ 1000000) : wrap64 ((i : Int) + 1) = ((i + 1 : Nat) : Int) := by unfold wrap64; omega
theorem refFind_from (l : List Node) (hl : l.length ≤ 1000000) (d : Dot) : ∀ (q k i : Nat), i + q = l.length → q < k → redpencilref10_Find.l0 k l (i : Int) d.f0 d.f1 = some (match idxN (l.drop i) i d with | some j => (j : Int) | none => -1) := by
  intro q
  induction q with
  | zero =>
    intro k i hd hk
    obtain ⟨k, rfl⟩ : ∃ m, k = m + 1 := ⟨k - 1, by omega⟩
    simp only [redpencilref10_Find.l0]
    rw [if_neg (by omega), List.drop_of_length_le (by omega)]; rfl
  | succ q ih =>
    intro k i hd hk
    obtain ⟨k, rfl⟩ : ∃ m, k = m + 1 := ⟨k - 1, by omega⟩
    simp only [redpencilref10_Find.l0]
    have hi : i < l.length := by omega
    rw [if_pos (by omega), if_pos (by omega), rdN hi, wrap_succ hi hl, List.drop_eq_getElem_cons hi, idxN]
    have e : ((l[i].f0.f0 == d.f0 && (l[i].f0.f1 == d.f1)) = true) ↔ d = l[i].f0 := by rw [Dot.ext_iff']; simp; omega
    by_cases h : d = l[i].f0
    · rw [if_pos (e.2 h), if_pos h]
    · rw [if_neg (fun hh => h (e.1 hh)), if_neg h]
      exact ih k (i + 1) (by omega) (by omega)
theorem refFind_is (l : List Node) (hl : l.length ≤ 1000000) (d : Dot) (k : Nat) (hk : l.length < k) : redpencilref10_Find.f k l d.f0 d.f1 = some (match idxN l 0 d with | some j => (j : Int) | none => -1) :=
  refFind_from l hl d l.length k 0 (by omega) hk
theorem refFlaw_is (l : List Node) (hl : l.length ≤ 1000000) (hw : ∀ x ∈ l, runeIn x.f3) (i : Nat) (hi : i < l.length) (k : Nat) (hk : l.length + 1 < k) : redpencilref13_Flaw.f k l (i : Int) = some (flawOf l (atOf (bk l)) i) := by
  obtain ⟨k, rfl⟩ : ∃ m, k = m + 1 := ⟨k - 1, by omega⟩
  have hx : l[i]? = some l[i] := List.getElem?_eq_getElem hi
  rw [flawOf_at hx]
  unfold redpencilref13_Flaw.f
  rw [if_pos (by omega), if_pos (by omega), rdN hi, refNode_is _ (hw _ (List.getElem_mem hi))]
  simp only [Option.bind_some]
  have hj : ∀ b : Bool, redpencilref13_Flaw.j0 (k + 1) l b l[i].f0.f0 l[i].f0.f1 l[i].f1.f0 l[i].f1.f1 l[i].f2 l[i].f3 = some (if b = true then 2 else if dotRoot l[i].f1 = true then 0 else match MapLaw.mget (atOf (bk l)) l[i].f1 with
      | none => 3
      | some k => if (match l[k]? with | some p => decide (l[i].f2 ≤ p.f2) | none => false) = true then 4 else 0) := by
    intro b
    simp only [redpencilref13_Flaw.j0, refRoot_is, Option.bind_some, refFind_is l hl l[i].f1 k (by omega), at_bk]
    cases b with
    | true => rfl
    | false =>
      simp only [Bool.false_eq_true, if_false]
      cases hr : dotRoot l[i].f1 with
      | true => simp
      | false =>
        simp only [Bool.false_eq_true, if_false]
        cases hn : idxN l 0 l[i].f1 with
        | none => simp
        | some j =>
          have hlt := idxN_lt l 0 _ j hn
          have hjl : j < l.length := by omega
          simp only [rdN hjl, List.getElem?_eq_getElem hjl]
          rw [if_neg (by omega), if_pos (by omega), if_pos (by omega)]
          by_cases ht : l[i].f2 ≤ l[j].f2 <;> simp [ht]
  cases hn : nodeOk l[i] with
  | false => simp
  | true =>
    simp only [if_true, Bool.true_eq_false, if_false]
    by_cases h0 : 0 < i
    · have hp : i - 1 < l.length := by omega
      have hw1 : wrap64 ((i : Int) - 1) = ((i - 1 : Nat) : Int) := by unfold wrap64; omega
      rw [if_pos (by omega), hw1, if_pos (by omega), if_pos (by omega), rdN hp, refLess_is]
      simp only [Option.bind_some, hj, List.getElem?_eq_getElem hp, h0, true_and]
      cases dotLt l[i - 1].f0 l[i].f0 <;> simp
      rfl
    · rw [if_neg (by omega), hj]
      simp [h0]
      rfl
theorem refFaults_from (l : List Node) (hl : l.length ≤ 1000000) (hw : ∀ x ∈ l, runeIn x.f3) : ∀ (q k i : Nat), i + q = l.length → q + l.length + 2 < k → redpencilref13_Faults.l0 k l (faultsUpto l (atOf (bk l)) i) (i : Int) = some (faultsOf l) := by
  intro q
  induction q with
  | zero =>
    intro k i hd hk
    obtain ⟨k, rfl⟩ : ∃ m, k = m + 1 := ⟨k - 1, by omega⟩
    obtain rfl : i = l.length := by omega
    simp only [redpencilref13_Faults.l0]
    rw [if_neg (by omega)]; rfl
  | succ q ih =>
    intro k i hd hk
    obtain ⟨k, rfl⟩ : ∃ m, k = m + 1 := ⟨k - 1, by omega⟩
    have hi : i < l.length := by omega
    have hn := ih k (i + 1) (by omega) (by omega)
    rw [faultsUpto_succ] at hn
    simp only [redpencilref13_Faults.l0]
    rw [if_pos (by omega), refFlaw_is l hl hw i hi k (by omega)]
    simp only [Option.bind_some]
    rw [wrap_succ hi hl]
    by_cases hf : flawOf l (atOf (bk l)) i = 0
    · rw [if_pos hf]; rw [if_pos hf, List.append_nil] at hn; exact hn
    · have := faultsUpto_length l (atOf (bk l)) i
      rw [if_neg hf, if_pos (by omega)]; rw [if_neg hf] at hn; exact hn
theorem refFaults_is (l : List Node) (hl : l.length ≤ 1000000) (hw : ∀ x ∈ l, runeIn x.f3) (k : Nat) (hk : l.length + l.length + 2 < k) : redpencilref13_Faults.f k l = some (faultsOf l) :=
  refFaults_from l hl hw l.length k 0 (by omega) hk
theorem refSame_from (l : List Fault) (hl : l.length ≤ 1000000) : ∀ (q k i : Nat), i + q = l.length → q < k → redpencilref13_Same.l0 k l l (i : Int) = some true := by
  intro q
  induction q with
  | zero =>
    intro k i hd hk
    obtain ⟨k, rfl⟩ : ∃ m, k = m + 1 := ⟨k - 1, by omega⟩
    simp only [redpencilref13_Same.l0]
    rw [if_neg (by omega)]
  | succ q ih =>
    intro k i hd hk
    obtain ⟨k, rfl⟩ : ∃ m, k = m + 1 := ⟨k - 1, by omega⟩
    simp only [redpencilref13_Same.l0]
    have hi : i < l.length := by omega
    rw [if_pos (by omega), if_pos (by omega), if_pos (by omega), if_neg (by simp), wrap_succ hi hl]
    exact ih k (i + 1) (by omega) (by omega)
theorem refSame_is (l : List Fault) (hl : l.length ≤ 1000000) (k : Nat) (hk : l.length < k) : redpencilref13_Same.f k l l = some true := by
  unfold redpencilref13_Same.f
  rw [if_pos rfl]
  exact refSame_from l hl l.length k 0 (by omega) hk
theorem refEqual_from (l m : List Node) (hlm : l.length = m.length) (hl : l.length ≤ 1000000) : ∀ (q k i : Nat), i + q = l.length → q < k → redpencilref10_Equal.l0 k l m (i : Int) = some (decide (l.drop i = m.drop i)) := by
  intro q
  induction q with
  | zero =>
    intro k i hd hk
    obtain ⟨k, rfl⟩ : ∃ m, k = m + 1 := ⟨k - 1, by omega⟩
    simp only [redpencilref10_Equal.l0]
    rw [if_neg (by omega), List.drop_of_length_le (by omega), List.drop_of_length_le (by omega)]; simp
  | succ q ih =>
    intro k i hd hk
    obtain ⟨k, rfl⟩ : ∃ m, k = m + 1 := ⟨k - 1, by omega⟩
    simp only [redpencilref10_Equal.l0]
    have hi : i < l.length := by omega
    have hi2 : i < m.length := by omega
    rw [if_pos (by omega), if_pos (by omega), if_pos (by omega), rdN hi, rdN hi2, wrap_succ hi hl, ih k (i + 1) (by omega) (by omega), List.drop_eq_getElem_cons hi, List.drop_eq_getElem_cons hi2]
    by_cases e : l[i] = m[i]
    · rw [if_neg (by simp [e])]
      rw [e]
      simp only [List.cons.injEq, true_and]
    · have hne : ¬ (l[i] :: l.drop (i + 1) = m[i] :: m.drop (i + 1)) := fun h => e (List.cons.inj h).1
      rw [if_pos, decide_eq_false hne]
      rw [Node.ext_iff', Dot.ext_iff', Dot.ext_iff'] at e
      simp
      by_cases a1 : l[i].f0.f0 = m[i].f0.f0 <;> by_cases a2 : l[i].f0.f1 = m[i].f0.f1 <;> by_cases a3 : l[i].f1.f0 = m[i].f1.f0 <;> by_cases a4 : l[i].f1.f1 = m[i].f1.f1 <;> by_cases a5 : l[i].f2 = m[i].f2 <;> simp_all
theorem refEqual_is (l m : List Node) (hl : l.length ≤ 1000000) (k : Nat) (hk : l.length < k) : redpencilref10_Equal.f k l m = some (decide (l = m)) := by
  unfold redpencilref10_Equal.f
  by_cases h : l.length = m.length
  · rw [if_pos (by omega)]
    have := refEqual_from l m h hl l.length k 0 (by omega) hk
    simpa using this
  · rw [if_neg (by omega)]
    have : ¬ l = m := fun e => h (by rw [e])
    simp [this]
theorem lawFaults_is (l : List Node) (hl : l.length ≤ 1000000) (k : Nat) (hk : l.length + 1 < k) : redpencillaw13_faults.f k l (faultsOf l) = some true := by
  obtain ⟨k, rfl⟩ : ∃ m, k = m + 1 := ⟨k - 1, by omega⟩
  have hfl : (faultsOf l).length ≤ l.length := faultsUpto_length _ _ _
  have hF : shape_Faults.f l = some (faultsOf l) := by unfold shape_Faults.f; rw [if_pos hl]
  have hj : ∀ a b : Int, shape_First.f l = some (a, b) → redpencillaw13_faults.j0 (k + 1) l (faultsOf l) a b = some true := by
    intro a b h
    simp only [redpencillaw13_faults.j0, hF, Option.bind_some, refSame_is _ (by omega : (faultsOf l).length ≤ 1000000) k (by omega), if_true, h]
    unfold shape_Well.f
    simp [hF]
  unfold redpencillaw13_faults.f
  by_cases h : ((faultsOf l).length : Int) > 0
  · rw [if_pos h, if_pos (by omega)]
    refine hj _ _ ?_
    unfold shape_First.f
    rw [hF]
    simp only [Option.bind_some]
    rw [if_neg (by omega), if_pos (by omega)]
  · rw [if_neg h]
    refine hj _ _ ?_
    unfold shape_First.f
    rw [hF]
    simp only [Option.bind_some]
    rw [if_pos (by omega)]

/-! ### FormFaults -/
theorem mkN (W : World) (base : Nat) (ok : Nat → Prop) (w : World) (x : Node) (cs : List Value) (h : (k37).K w x cs) : (k37).M W base ok x cs := by
  rw [k37_open h]
  exact k37_mkM _ _ _ x
theorem app_nodes {ops : Array Oper} {Q : Exit → Act → World → Prop} {o : Oper} {rest : List Oper} {a : Act} {W : World} (hgd : o.guard = none) (x : Operand)
    (ho : o.op = .call { callee := .builtin .append, args := #[.const (.slice none 0 0), x], argTypes := #[22, 22] }) (A : Option Addr) (l0 : List Node) (n c : Nat) (hn : l0.length = n) (hx : a.eval x = .slice A n c)
    (hr : Kd.C k37 W A n l0) (hl : n ≤ 1000000)
    (h : ∀ v1 w1, Kd.R k37 37 w1 W.heap.size (fun _ => True) v1 l0 → Below W.heap.size W w1 → wpList Tryd.prog ops Q rest (a.put o.dst v1) w1) : wpList Tryd.prog ops Q (o :: rest) a W := by
  subst hn
  refine Kd.R_append_rows k37 (w0 := W) W.heap.size hgd (.const (.slice none 0 0)) x 22 37 (.agg #[(.int .i64 0), (.int .i64 0), (.int .i64 0), (.int .i64 0), (.int .i64 0), (.int .i32 0)]) 48 ho Tryd.underlying22 info37 rfl (by decide) (by decide) (.slice none 0 0) [] l0 A l0.length c (fun _ => True) (fun _ => False) rfl hx (Kd.R_nil _ _ _ _ _) hr (fun x cs h => mkN _ _ _ _ x cs h) (fun _ hk => hk.elim) (fun _ _ => trivial) (Below.refl _ _) (Nat.le_refl _) (by simp only [List.length_nil]; omega) ?_
  intro v1 w1 ho hb _ _
  exact h v1 w1 ho hb
set_option maxHeartbeats 1000000 in
set_option maxRecDepth 100000 in
theorem FormFaults.walk (A0 : Option Addr) (c0 : Nat) (l0 : List Node) (w : World) (hr0 : Kd.C k37 w A0 l0.length l0) (hc0 : l0.length ≤ c0) (hi : ∀ x ∈ l0, runeIn x.f3) (hw : WordsAt w) :
    Calls Tryd.prog 3 #[.slice A0 l0.length c0] w fun e w' => e = .returned (.bool true) ∧ Below w.heap.size w w' := by
  have HW := Aside0.mk hw
  have HR := Aside0.mk hr0
  have HC := Aside0.mk hc0
  have HI := Aside0.mk hi
  clear hw hr0 hc0 hi
  by_cases h40 : l0.length > 40
  · have hb : decide ((l0.length : Int) > 40) = true := decide_eq_true (by omega)
    have hb2 : decide ((40 : Int) < (l0.length : Int)) = true := decide_eq_true (by omega)
    go_enter Tryd.func3, Tryd.ntmps3
    go_wp2_with fail
    refine (known.walk _ HW.out).mono ?_
    rintro e W3 ⟨rfl, hd⟩
    go_wp2_with fail
    go_ret
    exact ⟨rfl, hd⟩
  · have hb : decide ((l0.length : Int) > 40) = false := decide_eq_false (by omega)
    have hb2 : decide ((40 : Int) < (l0.length : Int)) = false := decide_eq_false (by omega)
    have hl : l0.length ≤ 40 := by omega
    clear h40
    obtain ⟨n, Hn⟩ : ∃ n, Aside0 (l0.length = n) := ⟨_, ⟨rfl⟩⟩
    rw [Hn.out] at hb hb2 hl ⊢
    have HL := Aside0.mk hl
    go_enter Tryd.func3, Tryd.ntmps3
    have HRN : Aside0 (Kd.C k37 w A0 n l0) := ⟨by have := HR.out; rwa [Hn.out] at this⟩
    go_wp2_with (at_builtin; refine app_nodes rfl (.tmp 8) rfl A0 l0 n c0 Hn.out rfl HRN.out (by omega) ?_; intro v1 w1 ho hb1)
    obtain ⟨A1, c1, rfl, hc1, hC1⟩ := Kd.R_reads ho
    have HC1 := Aside0.mk hC1
    have Hc1 := Aside0.mk hc1
    have HB := Aside0.mk hb1
    clear ho hb1 hC1 hc1
    have hl2 : l0.length ≤ 40 := by rw [Hn.out]; exact HL.out
    have hrf := redpencilref13_Faults.calls 100 A0 c0 l0 (faultsOf l0) w1 (Kd.C_below HR.out HB.out) HC.out (refFaults_is l0 (by omega) HI.out 100 (by omega))
    rw [Hn.out] at hrf
    refine hrf.mono ?_
    clear hrf
    rintro e w2 ⟨vf, rfl, hof, hb2⟩
    have hlf := lawFaults_is l0 (by omega) 100 (by omega)
    obtain ⟨fs, Hfs⟩ : ∃ fs, Aside0 (faultsOf l0 = fs) := ⟨_, ⟨rfl⟩⟩
    rw [Hfs.out] at hof hlf
    have HLF := Aside0.mk hlf
    obtain ⟨A2, c2, rfl, hc2, hC2⟩ := Kd.R_reads hof
    have HC2 := Aside0.mk hC2
    have Hc2 := Aside0.mk hc2
    have HC1 := Aside0.mk (Kd.C_below HC1.out hb2)
    have HB := Aside0.mk (below_more HB.out hb2)
    clear hof hb2 hC2 hc2 hlf hl2
    go_wp2_with fail
    refine (redpencillaw13_faults.calls 100 A1 c1 l0 A2 c2 fs true w2 HC1.out Hc1.out HC2.out Hc2.out HLF.out).mono ?_
    rintro e w3 ⟨rfl, hb3⟩
    have HC1 := Aside0.mk (Kd.C_below HC1.out hb3)
    have HB := Aside0.mk (below_more HB.out hb3)
    clear hb3
    go_wp2_with fail
    have hl2 : l0.length ≤ 40 := by rw [Hn.out]; exact HL.out
    have heq := redpencilref10_Equal.calls 100 A1 c1 l0 A0 c0 l0 true w3 HC1.out Hc1.out (Kd.C_below HR.out HB.out) HC.out (by rw [refEqual_is l0 l0 (by omega) 100 (by omega)]; simp)
    rw [Hn.out] at heq
    (try rw [Hn.out])
    refine heq.mono ?_
    clear heq hl2
    rintro e w4 ⟨rfl, hb4⟩
    have HB := Aside0.mk (below_more HB.out hb4.below)
    clear hb4
    go_wp2_with fail
    refine (known.walk _ (HW.out.below HB.out)).mono ?_
    rintro e w5 ⟨rfl, hb5⟩
    have HB := Aside0.mk (below_more HB.out hb5)
    clear hb5
    go_wp2_with fail
    go_ret
    exact ⟨rfl, HB.out⟩

end Go.Proofs.YtjlpaagnajmogaaDoor.PForm
