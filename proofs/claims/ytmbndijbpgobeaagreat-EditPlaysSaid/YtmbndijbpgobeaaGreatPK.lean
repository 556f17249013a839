/-
  The law EditPlays of layer 15 holds for all lists of edits. Part 11 of 12.
-/
import Derived.Test.YtmbndijbpgobeaaGreatPJ
import Derived.Laws.Tables
section
namespace Go.Proofs.YtmbndijbpgobeaaGreat.PWalk
open Go.RowKit Go.Proofs.YtmbndijbpgobeaaGreatW.PrintWords Go.Proofs.YtmbndijbpgobeaaGreatW.PrintLast Go.Proofs.YtmbndijbpgobeaaGreatW.PrintMore
set_option linter.unusedVariables false
set_option linter.unusedSimpArgs false
open Go.Shelf
attribute [local go_sem] Oper.semAt_some
section
theorem storeOk_mk {l : List Node} (h1 : ∀ x ∈ l, nodeOk x = true) (h2 : Inc l) : zak l = true := by
 unfold zak
 rw [Bool.and_eq_true, List.all_eq_true]
 exact ⟨h1, incB_mk h2⟩
theorem store_nodes {l : List Node} (h : zak l = true) : ∀ x ∈ l, nodeOk x = true := by
 unfold zak at h
 rw [Bool.and_eq_true, List.all_eq_true] at h
 exact h.1
theorem dead_ok {x : Node} (h : nodeOk x = true) : nodeOk (deadN x) = true := by
 unfold nodeOk deadN at *
 have h := of_decide_eq_true h
 exact decide_eq_true ⟨h.1, h.2.1, h.2.2.1, h.2.2.2.1, h.2.2.2.2.1, .inl rfl⟩
theorem gone_store {l : List Node} (hs : zak l = true) (p : Node → Bool) : zak ((l.filter p).map deadN) = true := by
 refine storeOk_mk (fun z hz => ?_) (List.pairwise_map.2 (((store_inc hs).sublist List.filter_sublist).imp fun h => h))
 obtain ⟨x, hx, rfl⟩ := List.mem_map.1 hz
 exact dead_ok (store_nodes hs x (List.mem_filter.1 hx).1)
theorem left_cases {l : List Node} (hs : zak l = true) (a : Int) : leftE l a = ⟨0, 0⟩ ∨ ∃ x ∈ l, leftE l a = x.f0 := by
 unfold leftE
 by_cases h : a = 0
 ·
  rw [if_pos h]; exact .inl rfl
 ·
  rw [if_neg h]
  cases hv : (visOf l)[(a - 1).toNat]? with
  | none => exact .inl rfl
  | some x => exact .inr ⟨x, (mem_vis hs (List.mem_of_getElem? hv)).1, rfl⟩
theorem chain_inc (d p : Dot) (t : Int) (rs : List Int) : Inc (chainE d p t rs) := by
 unfold chainE
 refine List.pairwise_map.2 (List.pairwise_lt_range.imp fun {i j} h => ?_)
 unfold nodeE dotLt
 exact decide_eq_true (.inl (show d.f1 + (i : Int) < d.f1 + (j : Int) by omega))
theorem chain_store {l : List Node} {d : Dot} {a : Int} {rs : List Int} (hs : zak l = true) (hd : dotOk d = true) (hr : ∀ r ∈ rs, runeOk r = true) (h1 : d.f1 + (rs.length : Int) ≤ 4294967296) (h2 : lastOf l + (rs.length : Int) ≤ 4611686018427387904) (hb : busyE l d rs.length = false) :
  zak (chainE d (leftE l a) (lastOf l) rs) = true := by
 refine storeOk_mk (fun z hz => ?_) (chain_inc _ _ _ _)
 obtain ⟨i, hi, rfl⟩ := List.mem_map.1 hz
 have hi := List.mem_range.1 hi
 have hla := last_le hs
 have hdo := of_decide_eq_true hd
 have ok : ∀ j : Nat, j < rs.length → dotOk ⟨d.f0, d.f1 + (j : Int)⟩ = true := fun j hj => decide_eq_true ⟨hdo.1, hdo.2.1, by show 1 ≤ d.f1 + (j : Int); omega, by show d.f1 + (j : Int) ≤ 4294967295; omega⟩
 have hrn : runeOk (rs.getD i 0) = true := by
  rw [List.getD_eq_getElem?_getD, List.getElem?_eq_getElem hi]
  exact hr _ (List.getElem_mem hi)
 unfold nodeOk nodeE
 refine decide_eq_true ⟨ok i hi, ?_, ?_, by show 1 ≤ lastOf l + 1 + (i : Int); omega, by show lastOf l + 1 + (i : Int) ≤ 4611686018427387904; omega, .inr hrn⟩
 ·
  cases i with
  | zero =>
   rcases left_cases hs a with h | ⟨x, hx, h⟩
   ·
    exact .inl (by unfold parE; rw [h]; rfl)
   ·
    exact .inr (by unfold parE; rw [h]; exact (of_decide_eq_true (store_nodes hs x hx)).1)
  | succ j => exact .inr (ok j (by omega))
 ·
  cases i with
  | zero =>
   intro e
   rcases left_cases hs a with h | ⟨x, hx, h⟩
   ·
    have e2 : leftE l a = ⟨d.f0, d.f1 + ((0 : Nat) : Int)⟩ := e
    rw [h] at e2
    have e3 := congrArg (fun q : Dot => q.f1) e2
    simp only at e3
    omega
   ·
    have e2 : leftE l a = ⟨d.f0, d.f1 + ((0 : Nat) : Int)⟩ := e
    rw [h] at e2
    have := busy_yes (l := l) (d := d) hi (List.mem_map.2 ⟨x, hx, e2⟩)
    rw [hb] at this
    cases this
  | succ j =>
   intro e
   have e2 : (⟨d.f0, d.f1 + (j : Int)⟩ : Dot) = ⟨d.f0, d.f1 + ((j + 1 : Nat) : Int)⟩ := e
   have e3 := congrArg (fun q : Dot => q.f1) e2
   simp only at e3
   omega
theorem chain_agree {l g : List Node} {d p : Dot} {t : Int} {rs : List Int} (hg : ∀ x ∈ g, x.f0 ∈ l.map (·.f0)) (hb : busyE l d rs.length = false) : agreeL g (chainE d p t rs) = true := by
 unfold agreeL
 rw [List.all_eq_true]
 intro x hx
 rw [findIdx_none fun z hz e => ?_]
 obtain ⟨i, hi, rfl⟩ := List.mem_map.1 hz
 have := busy_yes (l := l) (d := d) (List.mem_range.1 hi) (by rw [show (⟨d.f0, d.f1 + (i : Int)⟩ : Dot) = x.f0 from e]; exact hg x hx)
 rw [hb] at this
 cases this
theorem repl_is {l : List Node} {d : Dot} {a n : Int} {rs : List Int} (hrs : rs.length ≤ 20000) : replJ l d a n rs = replR l d a n rs := by
 unfold replJ replR
 by_cases he : errE l d a n rs = 0
 ·
  rw [if_neg (show ¬ errE l d a n rs ≠ 0 from fun h => h he), if_neg (show ¬ errE l d a n rs ≠ 0 from fun h => h he)]
  unfold chainR
  cases hb : busyE l d rs.length with
  | true => rw [if_pos rfl, if_pos rfl, if_pos (by decide)]
  | false =>
   simp only [Bool.false_eq_true, if_false, ne_eq, not_true_eq_false]
   obtain ⟨h1, h2, h3, h4, h5, h6, h7, h8⟩ := err_zero hrs he
   have hs := well_store h1
   rw [del_some h3 h4, gone_is hs]
   obtain ⟨e1, e2, _⟩ := join_store (gone_store hs fun x => decide (x.f0 ∈ (cutV l a n).map (·.f0))) (chain_store (a := a) hs h2 h6 h7 h8 hb) (chain_agree (l := l) (fun x hx => by
    obtain ⟨y, hy, rfl⟩ := List.mem_map.1 hx
    exact List.mem_map.2 ⟨y, (List.mem_filter.1 hy).1, rfl⟩) hb)
   unfold joinR
   rw [if_pos ⟨gone_store hs _, chain_store hs h2 h6 h7 h8 hb⟩, e1]
 ·
  rw [if_pos he, if_pos he]
end
section
/-- The store with one node more. -/
def putK (x : Node) : List Node → List Node
 | [] => [x]
 | y :: r => if dotLt y.f0 x.f0 = true then y :: putK x r else x :: y :: r
theorem putK_perm (x : Node) : ∀ l, (putK x l).Perm (x :: l)
 | [] => List.Perm.refl _
 | y :: r => by
  rw [putK]
  split
  ·
   exact ((putK_perm x r).cons y).trans (List.Perm.swap x y r)
  ·
   exact List.Perm.refl _
theorem putK_length (x : Node) (l : List Node) : (putK x l).length = l.length + 1 := (putK_perm x l).length_eq
theorem putK_inc {x : Node} : ∀ {l : List Node}, Inc l → x.f0 ∉ l.map (·.f0) → Inc (putK x l)
 | [], _, _ => List.pairwise_singleton _ _
 | y :: r, h, hx => by
  obtain ⟨h1, h2⟩ := List.pairwise_cons.1 h
  rw [List.map_cons, List.mem_cons] at hx
  rw [putK]
  split
  ·
   rename_i e
   refine List.pairwise_cons.2 ⟨fun z hz => ?_, putK_inc h2 fun e => hx (.inr e)⟩
   rcases List.mem_cons.1 ((putK_perm x r).mem_iff.1 hz) with rfl | hz
   ·
    exact e
   ·
    exact h1 z hz
  ·
   rename_i e
   have hxy : dotLt x.f0 y.f0 = true := dotLt_tot e fun q => hx (.inl q.symm)
   refine List.pairwise_cons.2 ⟨fun z hz => ?_, h⟩
   rcases List.mem_cons.1 hz with rfl | hz
   ·
    exact hxy
   ·
    exact dotLt_tr hxy (h1 z hz)
theorem kids_put {l : List Node} {n : Node} (hs : Store l) (hn : n.f0 ∉ l.map (·.f0)) (ht : ∀ x ∈ l, x.f2 < n.f2) (e : Dot) : kids (putK n l) e = if n.f1 = e then n :: kids l e else kids l e := by
 have hi := putK_inc hs.inc hn
 have h1 : (kids (putK n l) e).Perm ((n :: l).filter fun x => decide (x.f1 = e)) := (kids_perm _ _).trans ((putK_perm n l).filter _)
 have hu : ∀ x ∈ kids (putK n l) e, ∀ y ∈ kids (putK n l) e, x.f0 = y.f0 → x = y := fun x hx y hy q => inc_eq hi (mem_kids.1 hx).1 (mem_kids.1 hy).1 q
 rw [List.filter_cons] at h1
 by_cases h : n.f1 = e
 ·
  rw [if_pos h]
  rw [if_pos (by simp [h])] at h1
  refine sorted_unique (h1.trans ((kids_perm l e).symm.cons n)) (kids_sorted _ _) (List.pairwise_cons.2 ⟨fun y hy => ?_, kids_sorted l e⟩) hu
  have := ht y (mem_kids.1 hy).1
  unfold nodeLt
  rw [if_neg (by omega)]
  simp only [decide_eq_false_iff_not]
  omega
 ·
  rw [if_neg h]
  rw [if_neg (by simp [h])] at h1
  exact sorted_unique (h1.trans (kids_perm l e).symm) (kids_sorted _ _) (kids_sorted l e) hu
theorem belowN_none {l : List Node} {d : Dot} (h : kids l d = []) : ∀ (m dep : Nat), belowN l m dep d = []
 | 0, _ => rfl
 | m + 1, dep => by rw [belowN, h]; rfl
def preN (n : Node) (e : Dot) (dep : Nat) : List (Nat × Node) := if n.f1 = e then [(dep, n)] else []
def insAft (n : Node) (L : List (Nat × Node)) : List (Nat × Node) := L.flatMap fun p => p :: preN n p.2.f0 (p.1 + 1)
theorem below_put {l : List Node} {n : Node} (hs : Store l) (hn : n.f0 ∉ l.map (·.f0)) (ht : ∀ x ∈ l, x.f2 < n.f2) (hd : kids (putK n l) n.f0 = []) : ∀ (q m : Nat) (e : Dot) (dep : Nat), Low l q e → q < m →
  belowN (putK n l) m dep e = preN n e dep ++ insAft n (belowN l m dep e) := by
 have hstep : ∀ (m : Nat) (e : Dot) (dep : Nat), (∀ x ∈ kids l e, belowN (putK n l) m (dep + 1) x.f0 = preN n x.f0 (dep + 1) ++ insAft n (belowN l m (dep + 1) x.f0)) → belowN (putK n l) (m + 1) dep e = preN n e dep ++ insAft n (belowN l (m + 1) dep e) := by
  intro m e dep h
  rw [belowN, belowN, kids_put hs hn ht]
  have h2 : (kids l e).flatMap (fun x => (dep, x) :: belowN (putK n l) m (dep + 1) x.f0) = insAft n ((kids l e).flatMap fun x => (dep, x) :: belowN l m (dep + 1) x.f0) := by
   unfold insAft
   rw [List.flatMap_assoc]
   refine flatMap_same fun x hx => ?_
   rw [h x hx, List.flatMap_cons, List.cons_append]
   rfl
  rw [← h2]
  unfold preN
  by_cases hp : n.f1 = e
  ·
   rw [if_pos hp, if_pos hp, List.flatMap_cons, belowN_none hd]
  ·
   rw [if_neg hp, if_neg hp, List.nil_append]
 intro q
 induction q with
 | zero =>
  intro m e dep hl hm
  obtain ⟨m, rfl⟩ : ∃ m', m = m' + 1 := ⟨m - 1, by omega⟩
  exact hstep m e dep fun x hx => by rw [show kids l e = [] from hl] at hx; cases hx
 | succ q ih =>
  intro m e dep hl hm
  obtain ⟨m, rfl⟩ : ∃ m', m = m' + 1 := ⟨m - 1, by omega⟩
  exact hstep m e dep fun x hx => ih m x.f0 (dep + 1) (hl x hx) (by omega)
theorem ins_none {n : Node} : ∀ {L : List Node}, (∀ x ∈ L, n.f1 ≠ x.f0) → L.flatMap (fun x => x :: if n.f1 = x.f0 then [n] else []) = L
 | [], _ => rfl
 | y :: L, h => by
  rw [List.flatMap_cons, ins_none fun x hx => h x (List.mem_cons_of_mem _ hx), if_neg (h y (List.mem_cons_self ..))]
  rfl
theorem nds_ins (n : Node) (L : List (Nat × Node)) : nds (insAft n L) = (nds L).flatMap fun x => x :: if n.f1 = x.f0 then [n] else [] := by
 unfold nds insAft
 rw [List.map_flatMap, List.flatMap_map]
 refine flatMap_same fun p _ => ?_
 unfold preN
 by_cases h : n.f1 = p.2.f0
 ·
  rw [if_pos h, if_pos h]; rfl
 ·
  rw [if_neg h, if_neg h]; rfl
/-- The parent that the law takes: the root, or a reached node. -/
def parAt (O : List Node) : Nat → Dot
 | 0 => ⟨0, 0⟩
 | k + 1 => match O[k]? with | some y => y.f0 | none => ⟨0, 0⟩
theorem grows {l : List Node} (hs : zak l = true) {n : Node} (hok : nodeOk n = true) (hnew : n.f0 ∉ l.map (·.f0)) (hk0 : kids l n.f0 = []) (ht : ∀ x ∈ l, x.f2 < n.f2) {k : Nat} (hk : k ≤ (nds (ordOf l)).length) (hp : n.f1 = parAt (nds (ordOf l)) k) :
  nds (ordOf (putK n l)) = (nds (ordOf l)).take k ++ n :: (nds (ordOf l)).drop k := by
 have hS := store_of hs
 have hne : n.f1 ≠ n.f0 := by
  unfold nodeOk at hok
  rw [decide_eq_true_eq] at hok
  exact hok.2.2.1
 have hd : kids (putK n l) n.f0 = [] := by rw [kids_put hS hnew ht, if_neg hne, hk0]
 have hlow := Path.lows hS Path.root
 simp only [List.length_nil, Nat.sub_zero] at hlow
 have h1 : nds (ordOf (putK n l)) = nds (preN n ⟨0, 0⟩ 0) ++ nds (insAft n (ordOf l)) := by
  unfold ordOf belowOf
  rw [putK_length, below_put hS hnew ht hd l.length (l.length + 1 + 1) ⟨0, 0⟩ 0 hlow (by omega), belowN_any 0 hlow (by omega)]
  unfold nds
  rw [List.map_append]
 rw [h1, nds_ins]
 have hmem : ∀ x ∈ nds (ordOf l), x ∈ l := fun x hx => by
  unfold nds at hx
  obtain ⟨p, hp, rfl⟩ := List.mem_map.1 hx
  exact ord_mem hS hp
 cases k with
 | zero =>
  have hp0 : n.f1 = ⟨0, 0⟩ := hp
  rw [ins_none fun x hx e => hS.not_root (hmem x hx) (by rw [← e, hp0])]
  unfold preN
  rw [if_pos hp0]
  rfl
 | succ k =>
  have hkl : k < (nds (ordOf l)).length := by omega
  have hy := List.getElem?_eq_getElem hkl
  have hp1 : n.f1 = (nds (ordOf l))[k].f0 := by rw [hp, parAt, hy]
  have hnr : n.f1 ≠ ⟨0, 0⟩ := by rw [hp1]; exact hS.not_root (hmem _ (List.getElem_mem hkl))
  unfold preN
  rw [if_neg hnr]
  have hO : nds (ordOf l) = (nds (ordOf l)).take k ++ (nds (ordOf l))[k] :: (nds (ordOf l)).drop (k + 1) := by
   rw [← List.drop_eq_getElem_cons hkl, List.take_append_drop]
  have hnd : (nds (ordOf l)).Nodup := ord_nodup hS
  generalize (nds (ordOf l))[k] = y at hO hp1
  generalize (nds (ordOf l)).take k = A at hO
  generalize hB : (nds (ordOf l)).drop (k + 1) = B at hO
  have hyl : y ∈ l := hmem y (by rw [hO]; simp)
  have hout : (∀ x ∈ A, n.f1 ≠ x.f0) ∧ ∀ x ∈ B, n.f1 ≠ x.f0 := by
   rw [hO, List.nodup_append, List.nodup_cons] at hnd
   obtain ⟨_, ⟨hn1, _⟩, hn2⟩ := hnd
   refine ⟨fun x hx e => ?_, fun x hx e => ?_⟩
   ·
    have := inc_eq hS.inc hyl (hmem x (by rw [hO]; simp [hx])) (by rw [← hp1, e])
    exact hn2 x hx y (List.mem_cons_self ..) this.symm
   ·
    have := inc_eq hS.inc hyl (hmem x (by rw [hO]; simp [hx])) (by rw [← hp1, e])
    exact hn1 (by rw [this]; exact hx)
  have hAl : (nds (ordOf l)).take (k + 1) = A ++ [y] := by
   have h3 : (nds (ordOf l)).take (k + 1) ++ B = (A ++ [y]) ++ B := by rw [← hB, List.take_append_drop, hB, List.append_assoc]; exact hO
   exact List.append_cancel_right h3
  rw [hAl]
  show [] ++ (nds (ordOf l)).flatMap _ = _
  rw [hO, List.flatMap_append, List.flatMap_cons, ins_none hout.1, ins_none hout.2, if_pos hp1]
  simp
theorem inc_of_mem {l : List Node} (hl : Inc l) {x y : Node} (hx : x ∈ l) (hy : y ∈ l) (e : x.f0 = y.f0) : x = y := by
 obtain ⟨i, hi⟩ := List.getElem?_of_mem hx
 obtain ⟨j, hj⟩ := List.getElem?_of_mem hy
 have := inc_unique hl hi hj e
 subst this
 rw [hi] at hj
 cases hj
 rfl
theorem find_dot {l : List Node} {d : Dot} {k : Nat} (h : l.findIdx? (dotIs d) = some k) : ∃ x, l[k]? = some x ∧ x.f0 = d := by
 obtain ⟨hj, h1, _⟩ := List.findIdx?_eq_some_iff_getElem.1 h
 refine ⟨l[k], List.getElem?_eq_getElem hj, ?_⟩
 unfold dotIs at h1
 rw [Bool.and_eq_true, beq_iff_eq, beq_iff_eq] at h1
 cases hx : l[k].f0; cases d
 rw [hx] at h1
 simp only at h1
 rw [h1.1, h1.2]
theorem find_no {l : List Node} {d : Dot} (h : l.findIdx? (dotIs d) = none) : ∀ x ∈ l, x.f0 ≠ d := fun x hx e => by
 have := List.findIdx?_eq_none_iff.1 h x hx
 rw [← e, jis_self] at this
 cases this
/-- The members of a join: those of one alone, and those of both, merged. -/
def InJoin (l m : List Node) (z : Node) : Prop := (z ∈ l ∧ ∀ y ∈ m, y.f0 ≠ z.f0) ∨ (z ∈ m ∧ ∀ x ∈ l, x.f0 ≠ z.f0) ∨ ∃ x ∈ l, ∃ y ∈ m, x.f0 = y.f0 ∧ z = mergeJ x y
theorem stepJ_inc {o : List Node} {y : Node} (ho : Inc o) (hg : ∀ x ∈ o, x.f0 = y.f0 → agreeJ x y = true) : Inc (stepJ o y) ∧ (∀ z, z ∈ stepJ o y ↔ InJoin o [y] z) ∧ ∀ d, d ∈ (stepJ o y).map (·.f0) ↔ d = y.f0 ∨ d ∈ o.map (·.f0) := by
 unfold stepJ InJoin
 cases hf : o.findIdx? (dotIs y.f0) with
 | none =>
  have hn := find_no hf
  refine ⟨insP_inc ho hn, fun z => ?_, fun d => ?_⟩
  ·
   simp only [insP_mem, List.mem_singleton]
   constructor
   ·
    rintro (rfl | h)
    ·
     exact .inr (.inl ⟨rfl, hn⟩)
    ·
     exact .inl ⟨h, fun u hu => by rw [hu]; exact fun e => hn z h e.symm⟩
   ·
    rintro (⟨h, _⟩ | ⟨h, _⟩ | ⟨x, hx, u, hu, e, _⟩)
    ·
     exact .inr h
    ·
     exact .inl h
    ·
     rw [hu] at e; exact absurd e (hn x hx)
  ·
   simp only [List.mem_map, insP_mem]
   constructor
   ·
    rintro ⟨u, rfl | hu, rfl⟩
    ·
     exact .inl rfl
    ·
     exact .inr ⟨u, hu, rfl⟩
   ·
    rintro (rfl | ⟨u, hu, rfl⟩)
    ·
     exact ⟨y, .inl rfl, rfl⟩
    ·
     exact ⟨u, .inr hu, rfl⟩
 | some k =>
  obtain ⟨x, hx, e⟩ := find_dot hf
  have hk := (List.getElem?_eq_some_iff.1 hx).1
  have hxm := List.mem_of_getElem? hx
  have hge : o.getD k nodeZ = x := by rw [List.getD_eq_getElem?_getD, hx]; rfl
  have ha := hg x hxm e
  have hmd := (mergeJ_dot ha).1
  dsimp only
  rw [hge]
  have hmap : (o.set k (mergeJ x y)).map (·.f0) = o.map (·.f0) := by
   apply List.ext_getElem?
   intro i
   rw [List.getElem?_map, List.getElem?_map, List.getElem?_set]
   by_cases hi : k = i
   ·
    subst hi
    rw [if_pos rfl, if_pos hk, hx]
    simp [hmd]
   ·
    rw [if_neg hi]
  have hp : (o.map (·.f0)).Pairwise (fun a b => dotLt a b = true) := (List.pairwise_map (f := fun z : Node => z.f0) (R := fun a b => dotLt a b = true)).2 ho
  rw [← hmap] at hp
  refine ⟨(List.pairwise_map (f := fun z : Node => z.f0) (R := fun a b => dotLt a b = true)).1 hp, fun z => ?_, fun d => ?_⟩
  ·
   simp only [List.mem_singleton]
   constructor
   ·
    intro hz
    obtain ⟨i, hi⟩ := List.getElem?_of_mem hz
    rw [List.getElem?_set] at hi
    by_cases hki : k = i
    ·
     subst hki
     rw [if_pos rfl, if_pos hk] at hi
     cases hi
     exact .inr (.inr ⟨x, hxm, y, rfl, e, rfl⟩)
    ·
     rw [if_neg hki] at hi
     refine .inl ⟨List.mem_of_getElem? hi, fun u hu => ?_⟩
     rw [hu]
     intro e2
     exact hki (inc_unique ho hx hi (e.trans e2))
   ·
    rintro (⟨h, h2⟩ | ⟨h, h2⟩ | ⟨u, hu, v, hv, e2, rfl⟩)
    ·
     obtain ⟨i, hi⟩ := List.getElem?_of_mem h
     have hki : k ≠ i := fun e3 => by
      subst e3
      rw [hx] at hi
      cases hi
      exact h2 y rfl e.symm
     exact List.mem_of_getElem? (i := i) (by rw [List.getElem?_set, if_neg hki]; exact hi)
    ·
     rw [h] at h2; exact absurd e (h2 x hxm)
    ·
     subst hv
     have := inc_of_mem ho hu hxm (e2.trans e.symm)
     subst this
     exact List.mem_of_getElem? (i := k) (by rw [List.getElem?_set, if_pos rfl, if_pos hk])
  ·
   rw [hmap]
   constructor
   ·
    exact .inr
   ·
    rintro (rfl | h)
    ·
     exact List.mem_map.2 ⟨x, hxm, e⟩
    ·
     exact h
theorem joinJ_mem : ∀ {m l : List Node}, Inc l → Inc m → (∀ x ∈ l, ∀ y ∈ m, x.f0 = y.f0 → agreeJ x y = true) → Inc (joinJ l m) ∧ ∀ z, z ∈ joinJ l m ↔ InJoin l m z
 | [], l, hl, _, _ => ⟨hl, fun z => by unfold InJoin; simp [joinJ]⟩
 | y :: m, l, hl, hm, hg => by
  obtain ⟨hy, hm'⟩ := List.pairwise_cons.1 hm
  have hyne : ∀ u ∈ m, u.f0 ≠ y.f0 := fun u hu e => by have := hy u hu; rw [e, dotLt_irrefl] at this; cases this
  obtain ⟨s1, s2, s3⟩ := stepJ_inc hl fun x hx e => hg x hx y (List.mem_cons_self ..) e
  have hg' : ∀ x ∈ stepJ l y, ∀ u ∈ m, x.f0 = u.f0 → agreeJ x u = true := fun x hx u hu e => by
   rcases (s2 x).1 hx with ⟨h, _⟩ | ⟨h, _⟩ | ⟨v, hv, w, hw, e2, rfl⟩
   ·
    exact hg x h u (List.mem_cons_of_mem _ hu) e
   ·
    rw [List.mem_singleton.1 h] at e; exact absurd e.symm (hyne u hu)
   ·
    rw [List.mem_singleton.1 hw] at e2 ⊢
    have ha := hg v hv y (List.mem_cons_self ..) e2
    rw [List.mem_singleton.1 hw, (mergeJ_dot ha).1, e2] at e
    exact absurd e.symm (hyne u hu)
  obtain ⟨r1, r2⟩ := joinJ_mem (m := m) (l := stepJ l y) s1 hm' hg'
  refine ⟨r1, fun z => ?_⟩
  show z ∈ joinJ (stepJ l y) m ↔ _
  rw [r2]
  unfold InJoin
  constructor
  ·
   rintro (⟨h, h2⟩ | ⟨h, h2⟩ | ⟨u, hu, v, hv, e, rfl⟩)
   ·
    rcases (s2 z).1 h with ⟨h3, h4⟩ | ⟨h3, h4⟩ | ⟨u, hu, v, hv, e, rfl⟩
    ·
     refine .inl ⟨h3, fun w hw => ?_⟩
     rcases List.mem_cons.1 hw with rfl | hw
     ·
      exact h4 _ (List.mem_singleton.2 rfl)
     ·
      exact h2 w hw
    ·
     exact .inr (.inl ⟨by rw [List.mem_singleton.1 h3]; exact List.mem_cons_self .., h4⟩)
    ·
     exact .inr (.inr ⟨u, hu, v, by rw [List.mem_singleton.1 hv]; exact List.mem_cons_self .., e, rfl⟩)
   ·
    refine .inr (.inl ⟨List.mem_cons_of_mem _ h, fun x hx e => ?_⟩)
    obtain ⟨w, hw, ew⟩ := List.mem_map.1 ((s3 x.f0).2 (.inr (List.mem_map.2 ⟨x, hx, rfl⟩)))
    exact h2 w hw (ew.trans e)
   ·
    rcases (s2 u).1 hu with ⟨h3, h4⟩ | ⟨h3, h4⟩ | ⟨p, hp, q, hq, e2, rfl⟩
    ·
     exact .inr (.inr ⟨u, h3, v, List.mem_cons_of_mem _ hv, e, rfl⟩)
    ·
     rw [List.mem_singleton.1 h3] at e; exact absurd e.symm (hyne v hv)
    ·
     rw [List.mem_singleton.1 hq] at e2 e
     have ha := hg p hp y (List.mem_cons_self ..) e2
     rw [(mergeJ_dot ha).1, e2] at e
     exact absurd e.symm (hyne v hv)
  ·
   rintro (⟨h, h2⟩ | ⟨h, h2⟩ | ⟨u, hu, v, hv, e, rfl⟩)
   ·
    refine .inl ⟨(s2 z).2 (.inl ⟨h, fun w hw => ?_⟩), fun w hw => h2 w (List.mem_cons_of_mem _ hw)⟩
    rw [List.mem_singleton.1 hw]
    exact h2 y (List.mem_cons_self ..)
   ·
    rcases List.mem_cons.1 h with rfl | h
    ·
     exact .inl ⟨(s2 z).2 (.inr (.inl ⟨List.mem_singleton.2 rfl, h2⟩)), fun w hw => hyne w hw⟩
    ·
     refine .inr (.inl ⟨h, fun x hx e => ?_⟩)
     rcases (s3 x.f0).1 (List.mem_map.2 ⟨x, hx, rfl⟩) with e2 | h3
     ·
      exact hyne z h (e.symm.trans e2)
     ·
      obtain ⟨w, hw, ew⟩ := List.mem_map.1 h3
      exact h2 w hw (ew.trans e)
   ·
    rcases List.mem_cons.1 hv with rfl | hv
    ·
     have ha := hg u hu v (List.mem_cons_self ..) e
     refine .inl ⟨(s2 _).2 (.inr (.inr ⟨u, hu, v, List.mem_singleton.2 rfl, e, rfl⟩)), fun w hw => ?_⟩
     rw [(mergeJ_dot ha).1, e]
     exact hyne w hw
    ·
     have hne : u.f0 ≠ y.f0 := fun e2 => hyne v hv (e.symm.trans e2)
     exact .inr (.inr ⟨u, (s2 u).2 (.inl ⟨hu, fun w hw => by rw [List.mem_singleton.1 hw]; exact fun e2 => hne e2.symm⟩), v, hv, e, rfl⟩)
theorem agree_all {l m : List Node} (hm : Inc m) : agreeL l m = true ↔ ∀ x ∈ l, ∀ y ∈ m, x.f0 = y.f0 → agreeJ x y = true := by
 unfold agreeL
 rw [List.all_eq_true]
 refine forall_congr' fun x => forall_congr' fun hx => ?_
 cases hf : m.findIdx? (dotIs x.f0) with
 | none => exact ⟨fun _ y hy e => absurd e.symm (find_no hf y hy), fun _ => rfl⟩
 | some k =>
  obtain ⟨u, hu, e⟩ := find_dot hf
  have hge : m.getD k nodeZ = u := by rw [List.getD_eq_getElem?_getD, hu]; rfl
  dsimp only
  rw [hge]
  constructor
  ·
   intro h y hy e2
   have := inc_of_mem hm (List.mem_of_getElem? hu) hy (e.trans e2)
   subst this
   exact h
  ·
   intro h
   exact h u (List.mem_of_getElem? hu) e.symm
theorem last_max : ∀ (l : List Node) (t : Int), (t ≤ l.foldl (fun t x => mx t x.f2) t) ∧ ∀ x ∈ l, x.f2 ≤ l.foldl (fun t x => mx t x.f2) t
 | [], t => ⟨Int.le_refl _, fun x hx => by cases hx⟩
 | y :: l, t => by
  rw [List.foldl_cons]
  obtain ⟨h1, h2⟩ := last_max l (mx t y.f2)
  obtain ⟨m1, m2⟩ := mx_le t y.f2
  refine ⟨by omega, fun x hx => ?_⟩
  rcases List.mem_cons.1 hx with rfl | hx
  ·
   omega
  ·
   exact h2 x hx
theorem last_of {l : List Node} {x : Node} (hx : x ∈ l) : x.f2 ≤ lastOf l := (last_max l 0).2 x hx
theorem deadD_keeps (ds : List Dot) : Keeps (deadD ds) := fun x => by unfold deadD deadN; split <;> exact ⟨rfl, rfl, rfl⟩
theorem deadD_in {ds : List Dot} {x : Node} (h : x.f0 ∈ ds) : deadD ds x = deadN x := if_pos h
theorem deadD_out {ds : List Dot} {x : Node} (h : x.f0 ∉ ds) : deadD ds x = x := if_neg h
theorem deadD_ok {ds : List Dot} {x : Node} (h : nodeOk x = true) : nodeOk (deadD ds x) = true := by
 unfold deadD
 split
 ·
  exact dead_ok h
 ·
  exact h
theorem kills_store {l : List Node} (hs : zak l = true) (ds : List Dot) : zak (l.map (deadD ds)) = true := by
 refine storeOk_mk (fun z hz => ?_) (List.pairwise_map.2 ((store_inc hs).imp fun {a b} h => by rw [deadD_dot, deadD_dot]; exact h))
 obtain ⟨x, hx, rfl⟩ := List.mem_map.1 hz
 exact deadD_ok (store_nodes hs x hx)
theorem merge_dead (x : Node) : mergeJ x (deadN x) = deadN x := by
 have e : agreeJ x (deadN x) = true := by unfold agreeJ deadN; simp
 unfold mergeJ
 rw [if_pos e]
 unfold deadN
 simp
/-- What must be so for an edit that goes well. -/
structure EdOk (l : List Node) (d : Dot) (a n : Nat) (rs : List Int) : Prop where
 well : wellB l = true
 dot : dotOk d = true
 span : a + n ≤ (visOf l).length
 run : ∀ r ∈ rs, runeOk r = true
 cnt : d.f1 + (rs.length : Int) ≤ 4294967296
 tim : lastOf l + (rs.length : Int) ≤ 4611686018427387904
 busy : busyE l d rs.length = false
/-- The delta of an edit. -/
def deltaE (l : List Node) (d : Dot) (a n : Nat) (rs : List Int) : List Node := joinJ (joinJ [] ((cutV l a n).map deadN)) (chainE d (leftE l a) (lastOf l) rs)
/-- The state after an edit. -/
def afterE (l : List Node) (d : Dot) (a n : Nat) (rs : List Int) (i : Nat) : List Node := joinJ (l.map (deadD ((cutV l a n).map (·.f0)))) ((List.range i).map (nodeE d (leftE l a) (lastOf l) rs))
section
variable {l : List Node} {d : Dot} {a n : Nat} {rs : List Int} (H : EdOk l d a n rs)
include H
theorem EdOk.store : zak l = true := well_store (List.isEmpty_iff.1 H.well)
theorem EdOk.chain : zak (chainE d (leftE l a) (lastOf l) rs) = true := chain_store H.store H.dot H.run H.cnt H.tim H.busy
theorem EdOk.new {i : Nat} (hi : i < rs.length) {x : Node} (hx : x ∈ l) : x.f0 ≠ ⟨d.f0, d.f1 + (i : Int)⟩ := fun e => by
 have := busy_yes (l := l) (d := d) hi (List.mem_map.2 ⟨x, hx, e⟩)
 rw [H.busy] at this
 cases this
theorem EdOk.chainNew {z : Node} (hz : z ∈ chainE d (leftE l a) (lastOf l) rs) {x : Node} (hx : x ∈ l) : x.f0 ≠ z.f0 := by
 obtain ⟨i, hi, rfl⟩ := List.mem_map.1 hz
 exact H.new (List.mem_range.1 hi) hx
theorem EdOk.mem_delta (z : Node) : Inc (deltaE l d a n rs) ∧ (z ∈ deltaE l d a n rs ↔ (∃ x ∈ l, x.f0 ∈ (cutV l a n).map (·.f0) ∧ z = deadN x) ∨ z ∈ chainE d (leftE l a) (lastOf l) rs) := by
 have hg : ∀ x ∈ joinJ [] ((cutV l a n).map deadN), ∃ y ∈ l, y.f0 ∈ (cutV l a n).map (·.f0) ∧ x = deadN y := fun x hx => by
  rw [gone_is H.store] at hx
  obtain ⟨y, hy, rfl⟩ := List.mem_map.1 hx
  exact ⟨y, (List.mem_filter.1 hy).1, of_decide_eq_true (List.mem_filter.1 hy).2, rfl⟩
 have hi : Inc (joinJ [] ((cutV l a n).map deadN)) := by rw [gone_is H.store]; exact store_inc (gone_store H.store _)
 have hno : ∀ x ∈ joinJ [] ((cutV l a n).map deadN), ∀ y ∈ chainE d (leftE l a) (lastOf l) rs, x.f0 ≠ y.f0 := fun x hx y hy => by
  obtain ⟨u, hu, _, rfl⟩ := hg x hx
  show u.f0 ≠ y.f0
  exact H.chainNew hy hu
 obtain ⟨j1, j2⟩ := joinJ_mem hi (chain_inc d (leftE l a) (lastOf l) rs) fun x hx y hy e => absurd e (hno x hx y hy)
 refine ⟨j1, (j2 z).trans ?_⟩
 unfold InJoin
 constructor
 ·
  rintro (⟨h, _⟩ | ⟨h, _⟩ | ⟨x, hx, y, hy, e, _⟩)
  ·
   exact .inl (hg z h)
  ·
   exact .inr h
  ·
   exact absurd e (hno x hx y hy)
 ·
  rintro (⟨x, hx, hd, rfl⟩ | h)
  ·
   have hm : deadN x ∈ joinJ [] ((cutV l a n).map deadN) := by
    rw [gone_is H.store]
    exact List.mem_map.2 ⟨x, List.mem_filter.2 ⟨hx, decide_eq_true hd⟩, rfl⟩
   exact .inl ⟨hm, fun y hy e => hno _ hm y hy e.symm⟩
  ·
   exact .inr (.inl ⟨h, fun x hx => hno x hx z h⟩)
theorem EdOk.delta_store : zak (deltaE l d a n rs) = true := by
 refine storeOk_mk (fun z hz => ?_) (H.mem_delta ⟨d, d, 0, 0⟩).1
 rcases (H.mem_delta z).2.1 hz with ⟨x, hx, _, rfl⟩ | h
 ·
  exact dead_ok (store_nodes H.store x hx)
 ·
  exact store_nodes H.chain z h
theorem EdOk.agrees : ∀ x ∈ l, ∀ y ∈ deltaE l d a n rs, x.f0 = y.f0 → y = deadN x ∧ x.f0 ∈ (cutV l a n).map (·.f0) := fun x hx y hy e => by
 rcases (H.mem_delta y).2.1 hy with ⟨u, hu, hd, rfl⟩ | h
 ·
  have := inc_of_mem (store_inc H.store) hx hu e
  subst this
  exact ⟨rfl, hd⟩
 ·
  exact absurd e (H.chainNew h hx)
theorem EdOk.agree : agreeL l (deltaE l d a n rs) = true := (agree_all (H.mem_delta ⟨d, d, 0, 0⟩).1).2 fun x hx y hy e => by
 rw [(H.agrees x hx y hy e).1]
 unfold agreeJ deadN
 simp
theorem EdOk.mem_after {i : Nat} (hi : i ≤ rs.length) : Inc (afterE l d a n rs i) ∧ ∀ z, z ∈ afterE l d a n rs i ↔ (∃ x ∈ l, z = deadD ((cutV l a n).map (·.f0)) x) ∨ ∃ j, j < i ∧ z = nodeE d (leftE l a) (lastOf l) rs j := by
 have hc : Inc ((List.range i).map (nodeE d (leftE l a) (lastOf l) rs)) := by
  refine List.pairwise_map.2 (List.pairwise_lt_range.imp fun {i j} h => ?_)
  unfold nodeE dotLt
  exact decide_eq_true (.inl (show d.f1 + (i : Int) < d.f1 + (j : Int) by omega))
 have hno : ∀ x ∈ l.map (deadD ((cutV l a n).map (·.f0))), ∀ y ∈ (List.range i).map (nodeE d (leftE l a) (lastOf l) rs), x.f0 ≠ y.f0 := fun x hx y hy => by
  obtain ⟨u, hu, rfl⟩ := List.mem_map.1 hx
  obtain ⟨j, hj, rfl⟩ := List.mem_map.1 hy
  rw [deadD_dot]
  exact H.new (by have := List.mem_range.1 hj; omega) hu
 obtain ⟨j1, j2⟩ := joinJ_mem (store_inc (kills_store H.store _)) hc fun x hx y hy e => absurd e (hno x hx y hy)
 refine ⟨j1, fun z => (j2 z).trans ?_⟩
 unfold InJoin
 constructor
 ·
  rintro (⟨h, _⟩ | ⟨h, _⟩ | ⟨x, hx, y, hy, e, _⟩)
  ·
   obtain ⟨x, hx, rfl⟩ := List.mem_map.1 h
   exact .inl ⟨x, hx, rfl⟩
  ·
   obtain ⟨j, hj, rfl⟩ := List.mem_map.1 h
   exact .inr ⟨j, List.mem_range.1 hj, rfl⟩
  ·
   exact absurd e (hno x hx y hy)
 ·
  rintro (⟨x, hx, rfl⟩ | ⟨j, hj, rfl⟩)
  ·
   have hm : deadD ((cutV l a n).map (·.f0)) x ∈ l.map (deadD ((cutV l a n).map (·.f0))) := List.mem_map.2 ⟨x, hx, rfl⟩
   exact .inl ⟨hm, fun y hy e => hno _ hm y hy e.symm⟩
  ·
   have hm : nodeE d (leftE l a) (lastOf l) rs j ∈ (List.range i).map (nodeE d (leftE l a) (lastOf l) rs) := List.mem_map.2 ⟨j, List.mem_range.2 hj, rfl⟩
   exact .inr (.inl ⟨hm, fun x hx => hno x hx _ hm⟩)
theorem EdOk.join_is : joinJ l (deltaE l d a n rs) = afterE l d a n rs rs.length := by
 obtain ⟨j1, j2⟩ := joinJ_mem (store_inc H.store) (H.mem_delta ⟨d, d, 0, 0⟩).1 fun x hx y hy e => by
  rw [(H.agrees x hx y hy e).1]
  unfold agreeJ deadN
  simp
 obtain ⟨a1, a2⟩ := H.mem_after (Nat.le_refl _)
 refine inc_ext j1 a1 fun z => (j2 z).trans (Iff.trans ?_ (a2 z).symm)
 unfold InJoin
 constructor
 ·
  rintro (⟨h, h2⟩ | ⟨h, h2⟩ | ⟨x, hx, y, hy, e, rfl⟩)
  ·
   refine .inl ⟨z, h, (deadD_out fun hd => ?_).symm⟩
   exact h2 (deadN z) ((H.mem_delta _).2.2 (.inl ⟨z, h, hd, rfl⟩)) rfl
  ·
   rcases (H.mem_delta z).2.1 h with ⟨x, hx, _, rfl⟩ | h
   ·
    exact absurd rfl (h2 x hx)
   ·
    obtain ⟨j, hj, rfl⟩ := List.mem_map.1 h
    exact .inr ⟨j, List.mem_range.1 hj, rfl⟩
  ·
   obtain ⟨e1, e2⟩ := H.agrees x hx y hy e
   refine .inl ⟨x, hx, ?_⟩
   rw [e1, deadD_in e2, merge_dead]
 ·
  rintro (⟨x, hx, rfl⟩ | ⟨j, hj, rfl⟩)
  ·
   by_cases hd : x.f0 ∈ (cutV l a n).map (·.f0)
   ·
    refine .inr (.inr ⟨x, hx, deadN x, (H.mem_delta _).2.2 (.inl ⟨x, hx, hd, rfl⟩), rfl, ?_⟩)
    rw [deadD_in hd, merge_dead]
   ·
    refine .inl ⟨by rw [deadD_out hd]; exact hx, fun y hy e => ?_⟩
    rw [deadD_out hd] at e
    exact hd (H.agrees x hx y hy e.symm).2
  ·
   have hm : nodeE d (leftE l a) (lastOf l) rs j ∈ chainE d (leftE l a) (lastOf l) rs := List.mem_map.2 ⟨j, List.mem_range.2 hj, rfl⟩
   exact .inr (.inl ⟨(H.mem_delta _).2.2 (.inr hm), fun x hx => H.chainNew hm hx⟩)
end
theorem insP_put (y : Node) : ∀ o : List Node, insP y o = putK y o
 | [] => rfl
 | x :: o => by rw [insP_cons, putK, insP_put y o]
theorem alive_app (a b : List Node) : zat (a ++ b) = zat a ++ zat b := List.filter_append ..
theorem alive_dead (ds : List Dot) (T : List Node) : zat (T.map (deadD ds)) = (zat T).filter fun x => decide (x.f0 ∉ ds) := by
 induction T with
 | nil => rfl
 | cons x T ih =>
  have e : ∀ (y : Node) (L : List Node), zat (y :: L) = if y.f3 = 0 then zat L else y :: zat L := fun y L => by
   unfold zat
   rw [List.filter_cons]
   by_cases h : y.f3 = 0 <;> simp [h]
  rw [List.map_cons, e, e, ih]
  by_cases hd : x.f0 ∈ ds
  ·
   rw [deadD_in hd, if_pos (show (deadN x).f3 = 0 from rfl)]
   by_cases h0 : x.f3 = 0
   ·
    rw [if_pos h0]
   ·
    rw [if_neg h0, List.filter_cons, if_neg (by simp [hd])]
  ·
   rw [deadD_out hd]
   by_cases h0 : x.f3 = 0
   ·
    rw [if_pos h0, if_pos h0]
   ·
    rw [if_neg h0, if_neg h0, List.filter_cons, if_pos (by simp [hd])]
theorem par_at {O : List Node} {k : Nat} {y : Node} (h : O[k]? = some y) : parAt O (k + 1) = y.f0 := by simp only [parAt, h]
/-- The place in the order where the runes are inserted. -/
theorem left_at {l : List Node} (hs : zak l = true) {a : Nat} (ha : a ≤ (visOf l).length) :
  ∃ T D, nds (ordOf l) = T ++ D ∧ zat T = (visOf l).take a ∧ zat D = (visOf l).drop a ∧ parAt (nds (ordOf l)) T.length = leftE l a := by
 cases a with
 | zero => exact ⟨[], nds (ordOf l), rfl, rfl, rfl, rfl⟩
 | succ j =>
  have hj : j < (visOf l).length := by omega
  obtain ⟨L1, L2, h1, h2, h3, _, _, h6⟩ := order_at hs (List.getElem?_eq_getElem hj)
  refine ⟨L1 ++ [(visOf l)[j]], L2, by rw [h1]; simp, ?_, ?_, ?_⟩
  ·
   have e : zat [(visOf l)[j]] = [(visOf l)[j]] := by unfold zat; simp [h6]
   rw [alive_app, e, List.take_succ_eq_append_getElem hj]
   have := congrArg (List.take j) h2
   rw [List.take_left' h3] at this
   rw [this]
  ·
   have := congrArg (List.drop (j + 1)) h2
   rw [this, show zat L1 ++ (visOf l)[j] :: zat L2 = (zat L1 ++ [(visOf l)[j]]) ++ zat L2 by simp, List.drop_left' (by simp [h3])]
  ·
   rw [List.length_append, List.length_singleton]
   rw [par_at (y := (visOf l)[j]) (by rw [h1, List.getElem?_append_right (Nat.le_refl _), Nat.sub_self]; rfl)]
   unfold leftE
   rw [if_neg (by omega), show ((((j + 1 : Nat) : Int)) - 1).toNat = j by omega, List.getElem?_eq_getElem hj]
   rfl
theorem par_map {g : Node → Node} (hg : Keeps g) (O : List Node) (k : Nat) : parAt (O.map g) k = parAt O k := by
 cases k with
 | zero => rfl
 | succ k =>
  simp only [parAt, List.getElem?_map]
  cases O[k]? with
  | none => rfl
  | some y => exact (hg y).1
section
variable {l : List Node} {d : Dot} {a n : Nat} {rs : List Int} (H : EdOk l d a n rs)
include H
theorem EdOk.node {i : Nat} (hi : i < rs.length) : nodeOk (nodeE d (leftE l a) (lastOf l) rs i) = true := store_nodes H.chain _ (List.mem_map.2 ⟨i, List.mem_range.2 hi, rfl⟩)
theorem EdOk.after_store {i : Nat} (hi : i ≤ rs.length) : zak (afterE l d a n rs i) = true := by
 obtain ⟨h1, h2⟩ := H.mem_after hi
 refine storeOk_mk (fun z hz => ?_) h1
 rcases (h2 z).1 hz with ⟨x, hx, rfl⟩ | ⟨j, hj, rfl⟩
 ·
  exact deadD_ok (store_nodes H.store x hx)
 ·
  exact H.node (by omega)
theorem EdOk.good {x : Node} (hx : x ∈ l) : dotRoot x.f1 = true ∨ ∃ p ∈ l, p.f0 = x.f1 ∧ p.f2 < x.f2 := by
 have h := H.well
 rw [well_good H.store, List.all_eq_true] at h
 exact (good_iff (store_inc H.store)).1 (h x hx)
theorem EdOk.fresh {i : Nat} (hi : i < rs.length) : kids (afterE l d a n rs i) (nodeE d (leftE l a) (lastOf l) rs i).f0 = [] := by
 rw [List.eq_nil_iff_forall_not_mem]
 intro z hz
 obtain ⟨hz1, hz2⟩ := mem_kids.1 hz
 have hz2 : z.f1 = ⟨d.f0, d.f1 + (i : Int)⟩ := hz2
 have hd1 : 1 ≤ d.f1 := (of_decide_eq_true H.dot).2.2.1
 rcases ((H.mem_after (Nat.le_of_lt hi)).2 z).1 hz1 with ⟨x, hx, rfl⟩ | ⟨j, hj, rfl⟩
 ·
  rw [(deadD_keeps _ x).2.1] at hz2
  rcases H.good hx with h | ⟨p, hp, e, _⟩
  ·
   have := of_decide_eq_true h
   rw [hz2] at this
   have := this.2
   simp only at this
   omega
  ·
   exact H.new hi hp (e.trans hz2)
 ·
  have hz2 : parE d (leftE l a) j = ⟨d.f0, d.f1 + (i : Int)⟩ := hz2
  cases j with
  | zero =>
   rcases left_cases H.store a with h | ⟨x, hx, h⟩
   ·
    have h2 : leftE l a = ⟨d.f0, d.f1 + (i : Int)⟩ := hz2
    rw [h] at h2
    have h3 := congrArg (fun q : Dot => q.f1) h2
    simp only at h3
    omega
   ·
    have h2 : leftE l a = ⟨d.f0, d.f1 + (i : Int)⟩ := hz2
    rw [h] at h2
    exact H.new hi hx h2
  | succ j =>
   have h3 := congrArg (fun q : Dot => q.f1) hz2
   simp only [parE] at h3
   omega
theorem EdOk.time {i : Nat} (hi : i ≤ rs.length) {z : Node} (hz : z ∈ afterE l d a n rs i) : z.f2 < lastOf l + 1 + (i : Int) := by
 rcases ((H.mem_after hi).2 z).1 hz with ⟨x, hx, rfl⟩ | ⟨j, hj, rfl⟩
 ·
  rw [(deadD_keeps _ x).2.2]
  have := last_of hx
  omega
 ·
  show lastOf l + 1 + (j : Int) < _
  omega
theorem EdOk.after_succ {i : Nat} (hi : i < rs.length) : afterE l d a n rs (i + 1) = putK (nodeE d (leftE l a) (lastOf l) rs i) (afterE l d a n rs i) := by
 unfold afterE
 rw [← rang_succ rfl]
 show stepJ (afterE l d a n rs i) (nodeE d (leftE l a) (lastOf l) rs i) = _
 unfold stepJ
 rw [findIdx_none, insP_put]
 ·
  rfl
 ·
  intro z hz e
  have e : z.f0 = ⟨d.f0, d.f1 + (i : Int)⟩ := e
  rcases ((H.mem_after (Nat.le_of_lt hi)).2 z).1 hz with ⟨x, hx, rfl⟩ | ⟨j, hj, rfl⟩
  ·
   rw [deadD_dot] at e
   exact H.new hi hx e
  ·
   have h3 := congrArg (fun q : Dot => q.f1) e
   have h3 : d.f1 + (j : Int) = d.f1 + (i : Int) := h3
   omega
/-- The order after an edit. -/
theorem EdOk.order {T D : List Node} (hO : nds (ordOf l) = T ++ D) (hp : parAt (nds (ordOf l)) T.length = leftE l a) : ∀ {i : Nat}, i ≤ rs.length →
  nds (ordOf (afterE l d a n rs i)) = T.map (deadD ((cutV l a n).map (·.f0))) ++ (List.range i).map (nodeE d (leftE l a) (lastOf l) rs) ++ D.map (deadD ((cutV l a n).map (·.f0)))
 | 0, _ => by
  show nds (ordOf (l.map (deadD ((cutV l a n).map (·.f0))))) = _
  rw [ord_map (deadD_keeps _), hO, List.map_append]
  simp
 | i + 1, hi => by
  have ih := EdOk.order hO hp (i := i) (by omega)
  have hn : (nodeE d (leftE l a) (lastOf l) rs i).f0 ∉ (afterE l d a n rs i).map (·.f0) := by
   intro h
   obtain ⟨z, hz, e⟩ := List.mem_map.1 h
   have e : z.f0 = ⟨d.f0, d.f1 + (i : Int)⟩ := e
   rcases ((H.mem_after (by omega : i ≤ rs.length)).2 z).1 hz with ⟨x, hx, rfl⟩ | ⟨j, hj, rfl⟩
   ·
    rw [deadD_dot] at e
    exact H.new (by omega) hx e
   ·
    have h3 := congrArg (fun q : Dot => q.f1) e
    have h3 : d.f1 + (j : Int) = d.f1 + (i : Int) := h3
    omega
  have hg := grows (H.after_store (i := i) (by omega)) (H.node (i := i) (by omega)) hn (H.fresh (by omega)) (fun x hx => H.time (by omega) hx) (k := T.length + i) (by rw [ih]; simp) (by
   show parE d (leftE l a) i = _
   rw [ih]
   cases i with
   | zero =>
    have e : T.map (deadD ((cutV l a n).map (·.f0))) ++ (List.range 0).map (nodeE d (leftE l a) (lastOf l) rs) ++ D.map (deadD ((cutV l a n).map (·.f0))) = (nds (ordOf l)).map (deadD ((cutV l a n).map (·.f0))) := by rw [hO]; simp
    rw [e, par_map (deadD_keeps _), Nat.add_zero, hp]
    rfl
   | succ j =>
    rw [← Nat.add_assoc]
    rw [par_at (y := nodeE d (leftE l a) (lastOf l) rs j) (by rw [List.getElem?_append_left (by simp), List.getElem?_append_right (by simp), List.length_map, Nat.add_sub_cancel_left, List.getElem?_map, List.getElem?_range (by omega)]; rfl)]
    rfl)
  rw [H.after_succ (by omega), hg, ih]
  have hl : (T.map (deadD ((cutV l a n).map (·.f0))) ++ (List.range i).map (nodeE d (leftE l a) (lastOf l) rs)).length = T.length + i := by simp
  rw [List.take_left' hl, List.drop_left' hl, List.range_succ, List.map_append, List.map_cons, List.map_nil]
  simp
omit H in
theorem cut_nat : (cutV l a n) = ((visOf l).take (a + n)).drop a := by
 unfold cutV
 rw [show ((a : Int) + (n : Int)).toNat = a + n by omega, Int.toNat_natCast]
/-- The visible nodes after an edit. -/
theorem EdOk.vis : visOf (afterE l d a n rs rs.length) = (visOf l).take a ++ chainE d (leftE l a) (lastOf l) rs ++ (visOf l).drop (a + n) := by
 obtain ⟨T, D, hO, hT, hD, hp⟩ := left_at H.store (a := a) (by have := H.span; omega)
 have hnd := vis_nodup H.store
 have hl : (List.take (a + n) (visOf l)).length = a + n := by rw [List.length_take]; have := H.span; omega
 have hd : (visOf l).drop a = cutV l a n ++ (visOf l).drop (a + n) := by
  rw [cut_nat, ← List.drop_append_of_le_length (by rw [hl]; omega), List.take_append_drop]
 have hv : visOf l = (visOf l).take a ++ (cutV l a n ++ (visOf l).drop (a + n)) := by rw [← hd, List.take_append_drop]
 rw [hv, List.map_append, List.map_append, List.nodup_append, List.nodup_append] at hnd
 obtain ⟨_, ⟨_, _, n2⟩, n1⟩ := hnd
 have e1 : ((visOf l).take a).filter (fun x => decide (x.f0 ∉ (cutV l a n).map (·.f0))) = (visOf l).take a := by
  rw [List.filter_eq_self]
  intro x hx
  rw [decide_eq_true_eq]
  intro h
  exact n1 _ (List.mem_map.2 ⟨x, hx, rfl⟩) _ (List.mem_append_left _ h) rfl
 have e2 : ((visOf l).drop a).filter (fun x => decide (x.f0 ∉ (cutV l a n).map (·.f0))) = (visOf l).drop (a + n) := by
  rw [hd, List.filter_append, List.filter_eq_nil_iff.2, List.nil_append, List.filter_eq_self]
  ·
   intro x hx
   rw [decide_eq_true_eq]
   intro h
   exact n2 _ h _ (List.mem_map.2 ⟨x, hx, rfl⟩) rfl
  ·
   intro x hx
   rw [decide_eq_true_eq]
   exact fun h => h (List.mem_map.2 ⟨x, hx, rfl⟩)
 have e3 : zat ((List.range rs.length).map (nodeE d (leftE l a) (lastOf l) rs)) = chainE d (leftE l a) (lastOf l) rs := by
  unfold zat chainE
  rw [List.filter_eq_self]
  intro x hx
  obtain ⟨i, hi, rfl⟩ := List.mem_map.1 hx
  have hi := List.mem_range.1 hi
  have hr := H.run _ (List.getElem_mem hi)
  have hx0 : (nodeE d (leftE l a) (lastOf l) rs i).f3 = rs[i] := by
   unfold nodeE
   rw [List.getD_eq_getElem?_getD, List.getElem?_eq_getElem hi]
   rfl
  have := (of_decide_eq_true hr).1
  rw [hx0]
  simp [this]
 unfold visOf
 rw [H.order hO hp (Nat.le_refl _), alive_app, alive_app, alive_dead, alive_dead, hT, hD, e1, e2, e3]
 rfl
/-- The text after an edit. -/
theorem EdOk.text : runesOf (joinJ l (deltaE l d a n rs)) = (runesOf l).take a ++ rs ++ (runesOf l).drop (a + n) := by
 rw [H.join_is]
 unfold runesOf
 rw [H.vis, List.map_append, List.map_append, List.map_take, List.map_drop]
 have e : (chainE d (leftE l a) (lastOf l) rs).map (·.f3) = rs := by
  apply List.ext_getElem?
  intro i
  unfold chainE
  rw [List.map_map, List.getElem?_map]
  by_cases hi : i < rs.length
  ·
   rw [List.getElem?_range hi, List.getElem?_eq_getElem hi]
   show some (rs.getD i 0) = _
   rw [List.getD_eq_getElem?_getD, List.getElem?_eq_getElem hi]
   rfl
  ·
   rw [List.getElem?_eq_none (by rw [List.length_range]; omega), List.getElem?_eq_none (by omega)]
   rfl
 rw [e]
/-- The state after an edit is well-formed. -/
theorem EdOk.after_well : wellB (joinJ l (deltaE l d a n rs)) = true := by
 rw [H.join_is, well_good (H.after_store (Nat.le_refl _)), List.all_eq_true]
 obtain ⟨h1, h2⟩ := H.mem_after (Nat.le_refl rs.length)
 intro z hz
 refine (good_iff h1).2 ?_
 rcases (h2 z).1 hz with ⟨x, hx, rfl⟩ | ⟨j, hj, rfl⟩
 ·
  have hk := deadD_keeps ((cutV l a n).map (·.f0))
  rw [(hk x).2.1, (hk x).2.2]
  rcases H.good hx with h | ⟨p, hp, e, ht⟩
  ·
   exact .inl h
  ·
   exact .inr ⟨deadD ((cutV l a n).map (·.f0)) p, (h2 _).2 (.inl ⟨p, hp, rfl⟩), by rw [(hk p).1]; exact e, by rw [(hk p).2.2]; exact ht⟩
 ·
  cases j with
  | zero =>
   rcases left_cases H.store a with h | ⟨x, hx, h⟩
   ·
    exact .inl (by show dotRoot (leftE l a) = true; rw [h]; rfl)
   ·
    have hk := deadD_keeps ((cutV l a n).map (·.f0))
    have := last_of hx
    exact .inr ⟨deadD ((cutV l a n).map (·.f0)) x, (h2 _).2 (.inl ⟨x, hx, rfl⟩), by rw [(hk x).1]; exact h.symm, by rw [(hk x).2.2]; show x.f2 < lastOf l + 1 + ((0 : Nat) : Int); omega⟩
  | succ j => exact .inr ⟨nodeE d (leftE l a) (lastOf l) rs j, (h2 _).2 (.inr ⟨j, by omega, rfl⟩), rfl, by show lastOf l + 1 + (j : Int) < lastOf l + 1 + ((j + 1 : Nat) : Int); omega⟩
/-- The nodes after an edit. -/
theorem EdOk.after_mem {z : Node} : z ∈ joinJ l (deltaE l d a n rs) ↔ (∃ x ∈ l, z = deadD ((cutV l a n).map (·.f0)) x) ∨ ∃ j, j < rs.length ∧ z = nodeE d (leftE l a) (lastOf l) rs j := by
 rw [H.join_is]
 exact (H.mem_after (Nat.le_refl _)).2 z
end
end
end Go.Proofs.YtmbndijbpgobeaaGreat.PWalk
end
section
namespace Go.Proofs.YtmbndijbpgobeaaGreat.PWalk
open Go.RowKit Go.Proofs.YtmbndijbpgobeaaGreatW.PrintWords Go.Proofs.YtmbndijbpgobeaaGreatW.PrintLast Go.Proofs.YtmbndijbpgobeaaGreatW.PrintMore
attribute [local go_sem] max2_int max_two
set_option linter.unusedVariables false
set_option linter.unusedSimpArgs false
section
def edit_Apply.f (k : Nat) (l0 : List (S53)) (l1 : List (S53)) : Option ((List (S53)) × List Int × Int) := (join_Join.f l0 l1).bind fun bt225 => (if bt225.2 = 0 then ((index_Runes.f k bt225.1).bind fun bt229 => (if bt229.2 = 0 then (some (bt225.1, bt229.1, 0)) else (some (([] : List (S53)), ([] : List Int), bt229.2)))) else (some (([] : List (S53)), ([] : List Int), bt225.2)))
set_option maxHeartbeats 8000000 in
set_option maxRecDepth 100000 in
theorem edit_Apply.calls (k : Nat) (A0 : Option Addr) (c0 : Nat) (l0 : List (S53)) (A1 : Option Addr) (c1 : Nat) (l1 : List (S53)) (r1 : List (S53)) (r2 : List Int) (r3 : Int) (w : World) (hr0 : Kd.C k53 w A0 l0.length l0) (hc0 : l0.length ≤ c0) (hr1 : Kd.C k53 w A1 l1.length l1) (hc1 : l1.length ≤ c1) (h : edit_Apply.f k l0 l1 = some (r1, r2, r3)) :
  Calls Tryz.prog 25 #[.slice A0 l0.length c0, .slice A1 l1.length c1] w fun e w' => ∃ v0_ v1_ : Value, e = .returned (.tuple #[v0_, v1_, .int .i64 r3]) ∧ Kd.R k53 53 w' w.heap.size (fun _ => True) v0_ r1 ∧ Kd.R (Kd.int .i32) 21 w' w.heap.size (fun _ => True) v1_ r2 ∧ Below w.heap.size w w' := by
 have HR0 := za0.mk hr0
 have HC0 := za0.mk hc0
 clear hr0 hc0
 have HR1 := za0.mk hr1
 have HC1 := za0.mk hc1
 clear hr1 hc1
 have HB := za0.mk (Below.refl w.heap.size w)
 have H : ((join_Join.f l0 l1).bind fun bt225 => (if bt225.2 = 0 then ((index_Runes.f k bt225.1).bind fun bt229 => (if bt229.2 = 0 then (some (bt225.1, bt229.1, 0)) else (some (([] : List (S53)), ([] : List Int), bt229.2)))) else (some (([] : List (S53)), ([] : List Int), bt225.2)))) = some (r1, r2, r3) := h
 clear h
 replace H := Option.bind_eq_some_iff.mp H
 obtain ⟨⟨t225, t226⟩, A30, H⟩ := H
 replace H : (if t226 = 0 then ((index_Runes.f k t225).bind fun bt229 => (if bt229.2 = 0 then (some (t225, bt229.1, 0)) else (some (([] : List (S53)), ([] : List Int), bt229.2)))) else (some (([] : List (S53)), ([] : List Int), t226))) = some (r1, r2, r3) := H
 have A3 := za0.mk A30
 clear A30
 by_cases c4 : t226 = 0
 ·
  rw [if_pos c4] at H
  have c4b0 : (t226 == 0) = true := beq_iff_eq.mpr c4
  have c4b1 : (t226 != 0) = false := bne_eq_false_iff_eq.mpr c4
  clear c4
  replace H := Option.bind_eq_some_iff.mp H
  obtain ⟨⟨t229, t230⟩, A50, H⟩ := H
  replace H : (if t230 = 0 then (some (t225, t229, 0)) else (some (([] : List (S53)), ([] : List Int), t230))) = some (r1, r2, r3) := H
  have A5 := za0.mk A50
  clear A50
  by_cases c6 : t230 = 0
  ·
   rw [if_pos c6] at H
   have c6b0 : (t230 == 0) = true := beq_iff_eq.mpr c6
   have c6b1 : (t230 != 0) = false := bne_eq_false_iff_eq.mpr c6
   clear c6
   simp only [Option.some.injEq, Prod.mk.injEq] at H
   obtain ⟨rfl, rfl, rfl⟩ := H
   go_enter Tryz.func25, Tryz.ntmps25
   go_wp2_with (first | ((with_reducible refine zah (f := 54) rfl ?_); refine zar (some 13) rfl rfl Tryz.func54 (by kernel_rfl) rfl #[.slice A0 l0.length c0, .slice A1 l1.length c1] rfl (by (try simp only [List.map_toArray, List.map_cons, List.map_nil]); first | done | rfl | (simp only [List.length_drop, List.length_take]; rfl)) ?_; (with_reducible refine (join_Join.calls _ _ l0 _ _ l1 t225 t226 _ ?side1 ?side2 ?side3 ?side4 A3.out).mono ?_); (case side1 => repeat (first | exact HR0.out | (with_reducible refine Kd.C_alloc ?_ _) | (with_reducible refine Kd.C_drewN ?_ _) | (with_reducible refine Kd.C_drew ?_))); (case side2 => exact HC0.out); (case side3 => repeat (first | exact HR1.out | (with_reducible refine Kd.C_alloc ?_ _) | (with_reducible refine Kd.C_drewN ?_ _) | (with_reducible refine Kd.C_drew ?_))); (case side4 => exact HC1.out); rintro e w7 ⟨v227, rfl, ho0, hb⟩; refine ⟨_, rfl, ?_⟩; have n0_ := za0.mk (Kd.R_lower ho0 (za8 (by repeat (first | (with_reducible first | exact HB.out | apply za2 | apply za1 | apply za3) | exact HB.out)))); have n1_ := za0.mk (zaa (by repeat (first | (with_reducible first | exact HB.out | apply za2 | apply za1 | apply za3) | exact HB.out)) hb); clear HB; have HO228 := n0_; have HB := n1_; clear n0_ n1_; (try clear hb); (try clear hb2); (try clear hk); (try clear hi); (try clear ho0); obtain ⟨Ao8, co8, eo8⟩ := Kd.R_slice HO228.out; subst eo8) | ((with_reducible refine zah (f := 56) rfl ?_); refine zar (some 21) rfl rfl Tryz.func56 (by kernel_rfl) rfl #[.slice Ao8 t225.length co8] rfl (by (try simp only [List.map_toArray, List.map_cons, List.map_nil]); first | done | rfl | (simp only [List.length_drop, List.length_take]; rfl)) ?_; (with_reducible refine (index_Runes.calls k _ _ t225 t229 t230 _ ?side1 ?side2 A5.out).mono ?_); (case side1 => repeat (first | exact (Kd.R_reads' HO228.out).2.2 | (with_reducible refine Kd.C_alloc ?_ _) | (with_reducible refine Kd.C_drewN ?_ _) | (with_reducible refine Kd.C_drew ?_))); (case side2 => exact (Kd.R_reads' HO228.out).2.1); rintro e w9 ⟨v231, rfl, ho0, hb⟩; refine ⟨_, rfl, ?_⟩; have n0_ := za0.mk (Kd.R_below (by (with_reducible repeat (first | apply Kd.R_alloc | apply Kd.R_drewN | apply Kd.R_drew)); exact HO228.out) hb); have n1_ := za0.mk (Kd.R_lower ho0 (za8 (by repeat (first | (with_reducible first | exact HB.out | apply za2 | apply za1 | apply za3) | exact HB.out)))); have n2_ := za0.mk (zaa (by repeat (first | (with_reducible first | exact HB.out | apply za2 | apply za1 | apply za3) | exact HB.out)) hb); clear HO228; clear HB; have HO228 := n0_; have HO232 := n1_; have HB := n2_; clear n0_ n1_ n2_; (try clear hb); (try clear hb2); (try clear hk); (try clear hi); (try clear ho0)))
   go_ret3
   exact ⟨_, _, by first | rfl | (simp [zac, zab] <;> rfl) | (simp [*, zac, zab] <;> rfl), by (with_reducible repeat (first | apply Kd.R_alloc | apply Kd.R_drewN | apply Kd.R_drew)); exact HO228.out, by (with_reducible repeat (first | apply Kd.R_alloc | apply Kd.R_drewN | apply Kd.R_drew)); exact HO232.out, by repeat (first | (with_reducible first | exact HB.out | apply za2 | apply za1 | apply za3) | exact HB.out)⟩
  ·
   rw [if_neg c6] at H
   have c6b0 : (t230 == 0) = false := beq_eq_false_iff_ne.mpr c6
   have c6b1 : (t230 != 0) = true := bne_iff_ne.mpr c6
   simp only [Option.some.injEq, Prod.mk.injEq] at H
   obtain ⟨rfl, rfl, rfl⟩ := H
   go_enter Tryz.func25, Tryz.ntmps25
   go_wp2_with (first | ((with_reducible refine zah (f := 54) rfl ?_); refine zar (some 13) rfl rfl Tryz.func54 (by kernel_rfl) rfl #[.slice A0 l0.length c0, .slice A1 l1.length c1] rfl (by (try simp only [List.map_toArray, List.map_cons, List.map_nil]); first | done | rfl | (simp only [List.length_drop, List.length_take]; rfl)) ?_; (with_reducible refine (join_Join.calls _ _ l0 _ _ l1 t225 t226 _ ?side1 ?side2 ?side3 ?side4 A3.out).mono ?_); (case side1 => repeat (first | exact HR0.out | (with_reducible refine Kd.C_alloc ?_ _) | (with_reducible refine Kd.C_drewN ?_ _) | (with_reducible refine Kd.C_drew ?_))); (case side2 => exact HC0.out); (case side3 => repeat (first | exact HR1.out | (with_reducible refine Kd.C_alloc ?_ _) | (with_reducible refine Kd.C_drewN ?_ _) | (with_reducible refine Kd.C_drew ?_))); (case side4 => exact HC1.out); rintro e w10 ⟨v227, rfl, ho0, hb⟩; refine ⟨_, rfl, ?_⟩; have n0_ := za0.mk (Kd.R_lower ho0 (za8 (by repeat (first | (with_reducible first | exact HB.out | apply za2 | apply za1 | apply za3) | exact HB.out)))); have n1_ := za0.mk (zaa (by repeat (first | (with_reducible first | exact HB.out | apply za2 | apply za1 | apply za3) | exact HB.out)) hb); clear HB; have HO228 := n0_; have HB := n1_; clear n0_ n1_; (try clear hb); (try clear hb2); (try clear hk); (try clear hi); (try clear ho0); obtain ⟨Ao11, co11, eo11⟩ := Kd.R_slice HO228.out; subst eo11) | ((with_reducible refine zah (f := 56) rfl ?_); refine zar (some 21) rfl rfl Tryz.func56 (by kernel_rfl) rfl #[.slice Ao11 t225.length co11] rfl (by (try simp only [List.map_toArray, List.map_cons, List.map_nil]); first | done | rfl | (simp only [List.length_drop, List.length_take]; rfl)) ?_; (with_reducible refine (index_Runes.calls k _ _ t225 t229 t230 _ ?side1 ?side2 A5.out).mono ?_); (case side1 => repeat (first | exact (Kd.R_reads' HO228.out).2.2 | (with_reducible refine Kd.C_alloc ?_ _) | (with_reducible refine Kd.C_drewN ?_ _) | (with_reducible refine Kd.C_drew ?_))); (case side2 => exact (Kd.R_reads' HO228.out).2.1); rintro e w12 ⟨v231, rfl, ho0, hb⟩; refine ⟨_, rfl, ?_⟩; have n0_ := za0.mk (Kd.R_below (by (with_reducible repeat (first | apply Kd.R_alloc | apply Kd.R_drewN | apply Kd.R_drew)); exact HO228.out) hb); have n1_ := za0.mk (Kd.R_lower ho0 (za8 (by repeat (first | (with_reducible first | exact HB.out | apply za2 | apply za1 | apply za3) | exact HB.out)))); have n2_ := za0.mk (zaa (by repeat (first | (with_reducible first | exact HB.out | apply za2 | apply za1 | apply za3) | exact HB.out)) hb); clear HO228; clear HB; have HO228 := n0_; have HO232 := n1_; have HB := n2_; clear n0_ n1_ n2_; (try clear hb); (try clear hb2); (try clear hk); (try clear hi); (try clear ho0)))
   go_ret3
   exact ⟨_, _, by first | rfl | (simp [zac, zab] <;> rfl) | (simp [*, zac, zab] <;> rfl), by first | exact Kd.R_nil _ _ _ _ _ | exact Kd.N_nil _ _ _ _ _ | exact Kd.V_nil _ _ _ _ _ | exact Kd.Q_nil _ _ _ _ _ | exact Kd.S_nil _ _ _ _ _, by first | exact Kd.R_nil _ _ _ _ _ | exact Kd.N_nil _ _ _ _ _ | exact Kd.V_nil _ _ _ _ _ | exact Kd.Q_nil _ _ _ _ _ | exact Kd.S_nil _ _ _ _ _, by repeat (first | (with_reducible first | exact HB.out | apply za2 | apply za1 | apply za3) | exact HB.out)⟩
 ·
  rw [if_neg c4] at H
  have c4b0 : (t226 == 0) = false := beq_eq_false_iff_ne.mpr c4
  have c4b1 : (t226 != 0) = true := bne_iff_ne.mpr c4
  simp only [Option.some.injEq, Prod.mk.injEq] at H
  obtain ⟨rfl, rfl, rfl⟩ := H
  go_enter Tryz.func25, Tryz.ntmps25
  go_wp2_with (first | ((with_reducible refine zah (f := 54) rfl ?_); refine zar (some 13) rfl rfl Tryz.func54 (by kernel_rfl) rfl #[.slice A0 l0.length c0, .slice A1 l1.length c1] rfl (by (try simp only [List.map_toArray, List.map_cons, List.map_nil]); first | done | rfl | (simp only [List.length_drop, List.length_take]; rfl)) ?_; (with_reducible refine (join_Join.calls _ _ l0 _ _ l1 t225 t226 _ ?side1 ?side2 ?side3 ?side4 A3.out).mono ?_); (case side1 => repeat (first | exact HR0.out | (with_reducible refine Kd.C_alloc ?_ _) | (with_reducible refine Kd.C_drewN ?_ _) | (with_reducible refine Kd.C_drew ?_))); (case side2 => exact HC0.out); (case side3 => repeat (first | exact HR1.out | (with_reducible refine Kd.C_alloc ?_ _) | (with_reducible refine Kd.C_drewN ?_ _) | (with_reducible refine Kd.C_drew ?_))); (case side4 => exact HC1.out); rintro e w13 ⟨v227, rfl, ho0, hb⟩; refine ⟨_, rfl, ?_⟩; have n0_ := za0.mk (Kd.R_lower ho0 (za8 (by repeat (first | (with_reducible first | exact HB.out | apply za2 | apply za1 | apply za3) | exact HB.out)))); have n1_ := za0.mk (zaa (by repeat (first | (with_reducible first | exact HB.out | apply za2 | apply za1 | apply za3) | exact HB.out)) hb); clear HB; have HO228 := n0_; have HB := n1_; clear n0_ n1_; (try clear hb); (try clear hb2); (try clear hk); (try clear hi); (try clear ho0)))
  go_ret3
  exact ⟨_, _, by first | rfl | (simp [zac, zab] <;> rfl) | (simp [*, zac, zab] <;> rfl), by first | exact Kd.R_nil _ _ _ _ _ | exact Kd.N_nil _ _ _ _ _ | exact Kd.V_nil _ _ _ _ _ | exact Kd.Q_nil _ _ _ _ _ | exact Kd.S_nil _ _ _ _ _, by first | exact Kd.R_nil _ _ _ _ _ | exact Kd.N_nil _ _ _ _ _ | exact Kd.V_nil _ _ _ _ _ | exact Kd.Q_nil _ _ _ _ _ | exact Kd.S_nil _ _ _ _ _, by repeat (first | (with_reducible first | exact HB.out | apply za2 | apply za1 | apply za3) | exact HB.out)⟩
end
end Go.Proofs.YtmbndijbpgobeaaGreat.PWalk
end
section
namespace Go.Proofs.YtmbndijbpgobeaaGreat.PWalk
open Go.RowKit Go.Proofs.YtmbndijbpgobeaaGreatW.PrintWords Go.Proofs.YtmbndijbpgobeaaGreatW.PrintLast Go.Proofs.YtmbndijbpgobeaaGreatW.PrintMore
set_option linter.unusedVariables false
set_option linter.unusedSimpArgs false
open Go.Shelf
attribute [local go_sem] Oper.semAt_some
section
theorem eidx_runes {l : List Node} (hl : l.length ≤ 400000) (hs : zak l = true) {k : Nat} (hk : l.length < k) : index_Runes.f k l = some (runesOf l, 0) := by
 have hv := vis_len hs
 unfold index_Runes.f
 rw [vis_is (by omega), if_pos hs]
 simp only [Option.bind_some]
 exact runes_from (visOf l) (by omega) 0 (visOf l).length k 0 (by omega) (by omega)
/-- What an edit's delta gives: the state and its runes, or the error. -/
def applyR (l m : List Node) : List Node × List Int × Int := if zak l = true ∧ zak m = true then (if agreeL l m = true then (joinJ l m, runesOf (joinJ l m), 0) else ([], [], 15)) else ([], [], 2)
theorem apply_is {l m : List Node} (hl : l.length ≤ 100000) (hm : m.length ≤ 100000) {k : Nat} (hk : l.length + m.length < k) : edit_Apply.f k l m = some (applyR l m) := by
 unfold edit_Apply.f join_Join.f joinR applyR
 rw [if_pos (by omega), Option.bind_some]
 by_cases h : zak l = true ∧ zak m = true
 ·
  rw [if_pos h, if_pos h]
  cases ha : agreeL l m with
  | true =>
   obtain ⟨e1, e2, e3⟩ := join_store h.1 h.2 ha
   simp only [e1, if_true]
   rw [eidx_runes (by omega) e2 (by omega)]
   rfl
  | false => rw [join_clash h.1 h.2 ha]; rfl
 ·
  rw [if_neg h, if_neg h]; rfl
theorem delta_nil (l : List Node) (d : Dot) (a : Nat) : deltaE l d a 0 [] = [] := by
 unfold deltaE
 have e : cutV l a (0 : Nat) = [] := by
  rw [cut_nat]
  exact List.drop_eq_nil_of_le (by rw [List.length_take]; omega)
 rw [e]
 rfl
section
variable {l : List Node} {d : Dot} {a n : Nat} {rs : List Int} (H : EdOk l d a n rs)
include H
theorem EdOk.span_zero : spanE l a n = 0 := span0 H.well (by have := H.span; omega)
theorem EdOk.err (hn : n ≤ 10000) (hm : rs.length ≤ 10000) : errE l d a n rs = 0 := by
 refine err0 H.well H.dot H.span_zero (by omega) (by omega) H.run (by have := H.cnt; omega) ?_
 unfold lateE
 rw [if_pos H.store]
 have := H.tim
 omega
theorem EdOk.repl (hn : n ≤ 10000) (hm : rs.length ≤ 10000) : replR l d a n rs = (deltaE l d a n rs, 0) := by
 rw [← repl_is (by omega)]
 unfold replJ
 rw [H.err hn hm, if_neg (by decide), if_neg (by rw [H.busy]; decide)]
 rfl
theorem EdOk.del (hn : n ≤ 10000) (hm : rs = []) : delE l a n = (deltaE l d a n rs, 0) := by
 subst hm
 rw [del_some H.span_zero (by omega), ← gone_is H.store]
 rfl
theorem EdOk.apply : applyR l (deltaE l d a n rs) = (joinJ l (deltaE l d a n rs), runesOf (joinJ l (deltaE l d a n rs)), 0) := by
 unfold applyR
 rw [if_pos ⟨H.store, H.delta_store⟩, if_pos H.agree]
theorem EdOk.delta_le : (deltaE l d a n rs).length ≤ l.length + rs.length := by
 have h2 := joinJ_le (chainE d (leftE l a) (lastOf l) rs) (joinJ [] ((cutV l a n).map deadN))
 have h3 : (chainE d (leftE l a) (lastOf l) rs).length = rs.length := by unfold chainE; rw [List.length_map, List.length_range]
 have h4 : (joinJ [] ((cutV l a n).map deadN)).length ≤ l.length := by
  rw [gone_is H.store, List.length_map]
  exact List.length_filter_le _ _
 unfold deltaE
 omega
theorem EdOk.after_le : (joinJ l (deltaE l d a n rs)).length ≤ l.length + rs.length := by
 rw [H.join_is]
 unfold afterE
 have := joinJ_le ((List.range rs.length).map (nodeE d (leftE l a) (lastOf l) rs)) (l.map (deadD ((cutV l a n).map (·.f0))))
 rw [List.length_map, List.length_map, List.length_range] at this
 exact this
theorem EdOk.after_ok : zak (joinJ l (deltaE l d a n rs)) = true := well_store (List.isEmpty_iff.1 H.after_well)
end
end
section
abbrev RI (W : World) (base : Nat) (v : Value) (xs : List Int) : Prop := Kd.R (Kd.int .i32) 21 W base (fun _ => True) v xs
theorem RI.C {W : World} {base m c : Nat} {A : Option Addr} {xs : List Int} (h : RI W base (.slice A m c) xs) : xs.length = m ∧ m ≤ c ∧ Kd.C (Kd.int .i32) W A m xs := by
 have h1 := Kd.R_reads' h
 have e : xs.length = m := h1.1.symm
 exact ⟨e, h1.2.1, by have := h1.2.2; rwa [e] at this⟩
theorem infoI : (Tryz.prog.info? 21).map (fun i => (i.zero, i.size, i.bytes)) = some (some (.int .i32 0), 1, 4) := by kernel_rfl
theorem cutI_to {A : Option Addr} {n c k : Nat} (hm : k ≤ n) (hc : n ≤ c) (W : World) : (Instr.sliceAt 26 (.slice A n c) none (some (.int .i64 (k : Int))) none).run Tryz.prog W = .ok (.slice A k c) W := by
 obtain ⟨i, hi, _⟩ := info_get infoI
 exact run_sliced Tryz.underlying26 (cut_to _ _ .i64 Tryz.underlying26 hi A n c (k : Int) (by omega) (by omega) hc W)
theorem cutI_from {A : Option Addr} {n c k : Nat} (hm : k ≤ n) (W : World) : (Instr.sliceAt 26 (.slice A n c) (some (.int .i64 (k : Int))) none none).run Tryz.prog W = .ok (.slice (if c = k then A else A.map (·.add (k * 1))) (n - k) (c - k)) W := by
 obtain ⟨i, hi, _, hs, _⟩ := info_get infoI
 exact run_sliced Tryz.underlying26 (cut_from _ _ .i64 Tryz.underlying26 hi 1 hs A n c (k : Int) (by omega) (by omega) W)
theorem op_append_rowsI {o : Oper} {a : Act} {K : Act → World → Prop} {Q : Exit → Act → World → Prop} {W : World} (base : Nat) (hgd : o.guard = none) (s x : Operand)
  (ho : o.op = .call { callee := .builtin .append, args := #[s, x], argTypes := #[26, 26] }) (v : Value) (xs ys : List Int) (A : Option Addr) (m c : Nat) (hs : a.eval s = v) (hx : a.eval x = .slice A m c)
  (hr : RI W base v xs) (hc : Kd.C (Kd.int .i32) W A m ys) (hb : base ≤ W.heap.size) (hl : xs.length + m ≤ 1000000)
  (h : ∀ v1 w1, RI w1 base v1 (xs ++ ys) → W.grownBy w1 v.ownBlock → K (a.put o.dst v1) w1) : o.wp Tryz.prog a W K Q := by
 have hw : Region.wanted o (yielded #[] a.tmps) = true := by simp [Region.wanted, hgd]
 have := Kd.R_append_rows_step (P := Tryz.prog) (ops := #[]) (Q := Q) (Kc := K) (Kd.int .i32) (w0 := W) base hw s x 26 21 (.int .i32 0) 4 ho Tryz.underlying26 info21 rfl (by decide) (by decide) v xs ys A m c (fun _ => True) (fun _ => False) hs hx hr hc (fun x cs h => h) (fun _ hk => hk.elim) (fun _ _ => trivial) (Below.refl _ _) hb (by omega)
  (fun v1 w1 h1 _ h3 _ => h v1 w1 h1 h3)
 rwa [if_pos hw] at this
theorem grown_belowR {W0 V V' : World} {v : Value} {xs : List Int} (hb : Below W0.heap.size W0 V) (hr : RI V W0.heap.size v xs) (hg : V.grownBy V' v.ownBlock) : Below W0.heap.size W0 V' :=
 hb.grown hg hb.size (fun k e => by obtain ⟨_, inner, hown, _⟩ := hr; exact (hown.lt k e).1)
def redpencilref15_Cut.f (l0 : List Int) (a1 a2 : Int) (l3 : List Int) : Option (List Int) := if 0 ≤ a1 ∧ 0 ≤ a2 ∧ a1 + a2 ≤ (l0.length : Int) ∧ l0.length ≤ 200000 ∧ l3.length ≤ 200000 then some (l0.take a1.toNat ++ l3 ++ l0.drop (a1 + a2).toNat) else none
/-- What has come up where the three parts are put together. -/
structure CT (W0 : World) (P L D : List Int) (l3 l5 l11 l12 : Bool) (va vb vc : Value) (V : World) : Prop where
 ord5 : l5 = true → l3 = true
 ord11 : l11 = true → l5 = true
 ord12 : l12 = true → l11 = true
 below : Below W0.heap.size W0 V
 r1 : l3 = true → l5 = false → RI V W0.heap.size va P
 r2 : l5 = true → l11 = false → RI V W0.heap.size vb (P ++ L)
 r3 : l11 = true → RI V W0.heap.size vc (P ++ L ++ D)
def ct1Inv (W0 : World) (A0 A3 Ac : Option Addr) (n c0 m c3 p q m3 q3 : Nat) (P l3L D : List Int) (z4 z5 z6 z7 z9 z10 z11 z12 z13 z14 z15 z16 z17 z18 z19 z20 : Value) (L : Array Bool) (ac : Act) (V : World) : Prop := ∃ (l0 l1 l2 l3 l4 l5 l6 l7 l8 l9 l10 l11 l12 : Bool) (va : Value) (vb : Value) (vc : Value), L = #[l0, l1, l2, l3, l4, l5, l6, l7, l8, l9, l10, l11, l12] ∧ ac = { tmps := #[.slice A0 n c0, .int .i64 (p : Int), .int .i64 (q : Int), .slice A3 m c3, z4, z5, z6, z7, selv l12 (vc) (.slice none 0 0), selv l0 (.slice A0 n c0) (z9), selv l1 (.int .i64 (p : Int)) (z10), selv l2 (.slice A0 p c0) (z11), selv l3 (va) (z12), selv l4 (.slice A3 m c3) (z13), selv l5 (vb) (z14), selv l6 (.slice A0 n c0) (z15), selv l7 (.int .i64 (p : Int)) (z16), selv l8 (.int .i64 (q : Int)) (z17), selv l9 (.int .i64 ((p : Int) + (q : Int))) (z18), selv l10 (.slice Ac m3 q3) (z19), selv l11 (vc) (z20)], defers := [] } ∧ za0 (CT W0 P l3L D l3 l5 l11 l12 va vb vc V)
set_option maxHeartbeats 4000000 in
set_option maxRecDepth 100000 in
theorem redpencilref15_Cut.calls (A0 : Option Addr) (c0 : Nat) (l0 : List Int) (a1 a2 : Int) (A3 : Option Addr) (c3 : Nat) (l3L : List Int) (r : List Int) (w : World) (hr0 : Kd.C (Kd.int .i32) w A0 l0.length l0) (hc0 : l0.length ≤ c0) (hr3 : Kd.C (Kd.int .i32) w A3 l3L.length l3L) (hc3 : l3L.length ≤ c3) (h : redpencilref15_Cut.f l0 a1 a2 l3L = some r) :
  Calls Tryz.prog 61 #[.slice A0 l0.length c0, .int .i64 a1, .int .i64 a2, .slice A3 l3L.length c3] w fun e w' => ∃ v0_ : Value, e = .returned v0_ ∧ Kd.R (Kd.int .i32) 21 w' w.heap.size (fun _ => True) v0_ r ∧ Below w.heap.size w w' := by
 unfold redpencilref15_Cut.f at h
 by_cases hl : 0 ≤ a1 ∧ 0 ≤ a2 ∧ a1 + a2 ≤ (l0.length : Int) ∧ l0.length ≤ 200000 ∧ l3L.length ≤ 200000
 rotate_left
 ·
  rw [if_neg hl] at h; cases h
 rw [if_pos hl] at h
 obtain rfl := Option.some.inj h
 obtain ⟨p, rfl⟩ : ∃ p : Nat, a1 = (p : Int) := ⟨a1.toNat, by omega⟩
 obtain ⟨q, rfl⟩ : ∃ q : Nat, a2 = (q : Int) := ⟨a2.toNat, by omega⟩
 obtain ⟨n, Hn⟩ : ∃ n, za0 (l0.length = n) := ⟨_, ⟨rfl⟩⟩
 obtain ⟨m, Hm⟩ : ∃ n, za0 (l3L.length = n) := ⟨_, ⟨rfl⟩⟩
 have HL : za0 (p + q ≤ n ∧ n ≤ 200000 ∧ m ≤ 200000) := ⟨by have h1 := Hn.out; have h2 := Hm.out; omega⟩
 have HC0 : za0 (n ≤ c0) := ⟨by rw [← Hn.out]; exact hc0⟩
 have HR := za0.mk hr0
 have HR3 := za0.mk hr3
 rw [Hn.out] at HR
 rw [Hm.out] at HR3
 rw [Hn.out, Hm.out, Int.toNat_natCast, show ((p : Int) + (q : Int)).toNat = p + q by omega]
 obtain ⟨P, HP⟩ : ∃ P, za0 (l0.take p = P) := ⟨_, ⟨rfl⟩⟩
 obtain ⟨D, HD⟩ : ∃ D, za0 (l0.drop (p + q) = D) := ⟨_, ⟨rfl⟩⟩
 rw [HP.out, HD.out]
 obtain ⟨m3, Hm3⟩ : ∃ k, za0 (n - (p + q) = k) := ⟨_, ⟨rfl⟩⟩
 obtain ⟨q3, Hq3⟩ : ∃ k, za0 (c0 - (p + q) = k) := ⟨_, ⟨rfl⟩⟩
 obtain ⟨Ac, HAc⟩ : ∃ A, za0 ((if c0 = p + q then A0 else A0.map (·.add ((p + q) * 1))) = A) := ⟨_, ⟨rfl⟩⟩
 have HPC : za0 (Kd.C (Kd.int .i32) w A0 p P) := ⟨by rw [← HP.out]; exact C_to HR.out Hn.out (by have := HL.out; omega)⟩
 have HDC : za0 (Kd.C (Kd.int .i32) w Ac m3 D) := ⟨by rw [← HD.out, ← HAc.out, ← Hm3.out]; exact C_from HR.out Hn.out (by have := HL.out; omega) HC0.out⟩
 have HT : za0 (∀ W, (Instr.sliceAt 26 (.slice A0 n c0) none (some (.int .i64 (p : Int))) none).run Tryz.prog W = .ok (.slice A0 p c0) W) := ⟨fun W => cutI_to (by have := HL.out; omega) HC0.out W⟩
 have HFR : za0 (∀ W, (Instr.sliceAt 26 (.slice A0 n c0) (some (.int .i64 ((p : Int) + (q : Int)))) none none).run Tryz.prog W = .ok (.slice Ac m3 q3) W) := ⟨fun W => by rw [← HAc.out, ← Hm3.out, ← Hq3.out, show (p : Int) + (q : Int) = ((p + q : Nat) : Int) by omega]; exact cutI_from (by have := HL.out; omega) W⟩
 have HLN : za0 (P.length = p ∧ D.length = m3 ∧ m3 ≤ 200000) := ⟨by
  have h0 := HL.out
  have h1 := Hn.out
  have h2 := Hm3.out
  rw [← HP.out, ← HD.out, List.length_take, List.length_drop]
  omega⟩
 have HW9 : za0 (wrap64 ((p : Int) + (q : Int)) = (p : Int) + (q : Int)) := ⟨by have := HL.out; unfold wrap64; omega⟩
 clear h hl hr0 hc0 hr3 hc3
 go_enter Tryz.func61, Tryz.ntmps61
 go_wp2_with fail
 refine AnyOrder.wp_region (by kernel_rfl) (ct1Inv w.drew A0 A3 Ac n c0 m c3 p q m3 q3 P l3L D _ _ _ _ _ _ _ _ _ _ _ _ _ _ _ _) ⟨false, false, false, false, false, false, false, false, false, false, false, false, false, undef, undef, undef, rfl, rfl, ⟨⟨fun h => (by cases h), fun h => (by cases h), fun h => (by cases h), Below.refl _ _, fun h => (by cases h), fun h => (by cases h), fun h => (by cases h)⟩⟩⟩ ?step ?last
 case step =>
  rintro L ac V i ⟨l0, l1, l2, l3, l4, l5, l6, l7, l8, l9, l10, l11, l12, va, vb, vc, rfl, rfl, HF⟩ hi K hK
  rcases AnyOrder.up hi [0, 1, 4, 6, 7, 8, 2, 3, 5, 9, 10, 11, 12] rfl with rfl | rfl | rfl | rfl | rfl | rfl | rfl | rfl | rfl | rfl | rfl | rfl | rfl
  all_goals
   replace hi := AnyOrder.first hi rfl
   repeat (obtain ⟨ha, hi⟩ := hi; first | obtain rfl := ha | clear ha)
   clear hi
   try simp only [sel_true, selv_true] at hK ⊢
  iterate 6
   ·
    refine AnyOrder.wpOp_go rfl (by rfl) ?_
    go_wp2_with fail
    exact ⟨_, _, _, _, _, _, _, _, _, _, _, _, _, va, vb, vc, rfl, rfl, HF⟩
  ·
   refine AnyOrder.wpOp_go rfl (by rfl) ?_
   refine op_slice 26 (.tmp 9) none (some (.tmp 10)) rfl rfl rfl rfl (HT.out V) ?_
   exact hK _ _ ⟨_, _, _, _, _, _, _, _, _, _, _, _, _, va, vb, vc, rfl, rfl, HF⟩
  ·
   obtain rfl : l5 = false := by cases l5 with | false => rfl | true => cases HF.out.ord5 rfl
   obtain rfl : l11 = false := by cases l11 with | false => rfl | true => cases HF.out.ord11 rfl
   obtain rfl : l12 = false := by cases l12 with | false => rfl | true => cases HF.out.ord12 rfl
   (try simp only [selv_false] at hK ⊢)
   refine AnyOrder.wpOp_go rfl (by rfl) ?_
   refine op_append_rowsI w.drew.heap.size rfl (.const (.slice none 0 0)) (.tmp 11) rfl (.slice none 0 0) [] P A0 p c0 rfl rfl (Kd.R_nil _ _ _ _ _) (Kd.C_below HPC.out (za5 (za3 (Below.refl _ w)) HF.out.below)) HF.out.below.size (by have := HLN.out; have := HL.out; have := Hm.out; (try simp only [List.length_append, List.length_nil]); omega) ?_
   intro v9 W9 h1 h2
   exact hK _ _ ⟨_, _, _, _, _, _, _, _, _, _, _, _, _, v9, vb, vc, rfl, rfl, ⟨⟨fun h => (by cases h), fun h => (by cases h), fun h => (by cases h), HF.out.below.grown h2 HF.out.below.size (fun k e => by cases e), fun _ _ => h1, fun h => (by cases h), fun h => (by cases h)⟩⟩⟩
  ·
   obtain rfl : l11 = false := by cases l11 with | false => rfl | true => cases HF.out.ord11 rfl
   obtain rfl : l12 = false := by cases l12 with | false => rfl | true => cases HF.out.ord12 rfl
   (try simp only [selv_false] at hK ⊢)
   refine AnyOrder.wpOp_go rfl (by rfl) ?_
   refine op_append_rowsI w.drew.heap.size rfl (.tmp 12) (.tmp 13) rfl va P l3L A3 m c3 rfl rfl (HF.out.r1 rfl rfl) (Kd.C_below HR3.out (za5 (za3 (Below.refl _ w)) HF.out.below)) HF.out.below.size (by have := HLN.out; have := HL.out; have := Hm.out; (try simp only [List.length_append, List.length_nil]); omega) ?_
   intro v9 W9 h1 h2
   exact hK _ _ ⟨_, _, _, _, _, _, _, _, _, _, _, _, _, va, v9, vc, rfl, rfl, ⟨⟨fun _ => rfl, fun h => (by cases h), fun h => (by cases h), grown_belowR HF.out.below (HF.out.r1 rfl rfl) h2, fun _ => fun h => (by cases h), fun _ _ => h1, fun h => (by cases h)⟩⟩⟩
  ·
   refine AnyOrder.wpOp_go rfl (by rfl) ?_
   go_wp2_with fail
   rw [HW9.out]
   exact ⟨_, _, _, _, _, _, _, _, _, _, _, _, _, va, vb, vc, rfl, rfl, HF⟩
  ·
   refine AnyOrder.wpOp_go rfl (by rfl) ?_
   refine op_slice 26 (.tmp 15) (some (.tmp 18)) none rfl rfl rfl rfl (HFR.out V) ?_
   exact hK _ _ ⟨_, _, _, _, _, _, _, _, _, _, _, _, _, va, vb, vc, rfl, rfl, HF⟩
  ·
   obtain rfl : l12 = false := by cases l12 with | false => rfl | true => cases HF.out.ord12 rfl
   (try simp only [selv_false] at hK ⊢)
   refine AnyOrder.wpOp_go rfl (by rfl) ?_
   refine op_append_rowsI w.drew.heap.size rfl (.tmp 14) (.tmp 19) rfl vb (P ++ l3L) D Ac m3 q3 rfl rfl (HF.out.r2 rfl rfl) (Kd.C_below HDC.out (za5 (za3 (Below.refl _ w)) HF.out.below)) HF.out.below.size (by have := HLN.out; have := HL.out; have := Hm.out; (try simp only [List.length_append, List.length_nil]); omega) ?_
   intro v9 W9 h1 h2
   exact hK _ _ ⟨_, _, _, _, _, _, _, _, _, _, _, _, _, va, vb, v9, rfl, rfl, ⟨⟨HF.out.ord5, fun _ => rfl, fun h => (by cases h), grown_belowR HF.out.below (HF.out.r2 rfl rfl) h2, fun _ => fun h => (by cases h), fun _ => fun h => (by cases h), fun _ => h1⟩⟩⟩
  ·
   refine AnyOrder.wpOp_go rfl (by rfl) ?_
   go_wp2_with fail
   exact ⟨_, _, _, _, _, _, _, _, _, _, _, _, _, va, vb, vc, rfl, rfl, ⟨⟨HF.out.ord5, HF.out.ord11, fun _ => rfl, HF.out.below, HF.out.r1, HF.out.r2, HF.out.r3⟩⟩⟩
 case last =>
  rintro L ac V ⟨l0, l1, l2, l3, l4, l5, l6, l7, l8, l9, l10, l11, l12, va, vb, vc, rfl, rfl, HF⟩ hr
  obtain ⟨rfl, rfl, rfl, rfl, rfl, rfl, rfl, rfl, rfl, rfl, rfl, rfl, rfl, -⟩ := AnyOrder.alls rfl (by kernel_rfl) hr
  clear hr
  simp only [sel_true, selv_true]
  have HR3' := za0.mk (HF.out.r3 rfl)
  have HB := za0.mk (za5 (za3 (Below.refl _ w)) HF.out.below)
  clear HF
  go_wp2
  go_ret
  exact ⟨_, rfl, Kd.R_lower HR3'.out (za3 (Below.refl w.heap.size w)).size, HB.out⟩
end
section
def xA : Node := ⟨⟨1, 1⟩, ⟨0, 0⟩, 1, 97⟩
def xB : Node := ⟨⟨1, 2⟩, ⟨1, 1⟩, 2, 0⟩
def xC : Node := ⟨⟨1, 3⟩, ⟨1, 2⟩, 3, 99⟩
def xG : Node := ⟨⟨1, 1⟩, ⟨0, 0⟩, 1, 0⟩
def xL : Node := ⟨⟨1, 3⟩, ⟨1, 2⟩, 3, 0⟩
def xX : Node := ⟨⟨2, 1⟩, ⟨1, 1⟩, 4, 120⟩
def xY : Node := ⟨⟨2, 2⟩, ⟨2, 1⟩, 5, 121⟩
def xZ : Node := ⟨⟨2, 1⟩, ⟨0, 0⟩, 4, 122⟩
theorem kn15_0 : redpencillaw15_inserts.f 60 [xA, xB, xC] 2 1 1 [120, 121] [xX, xY] 0 = some true := by kernel_rfl
theorem kn15_1 : edit_Apply.f 60 [xA, xB, xC] [xX, xY] = some ([xA, xX, xB, xY, xC], [97, 120, 121, 99], 0) := by kernel_rfl
theorem kn15_2 : redpencillaw15_deletes.f 60 [xA, xB, xC] 1 1 [xL] 0 = some true := by kernel_rfl
theorem kn15_3 : redpencillaw15_replaces.f 60 [xA, xB, xC] 2 1 0 2 [122] [xG, xZ, xL] 0 = some true := by kernel_rfl
theorem kn15_4 : edit_Apply.f 60 [xA, xB, xC] [xG, xZ, xL] = some ([xG, xZ, xB, xL], [122], 0) := by kernel_rfl
theorem kn15_5 : redpencillaw15_inserts.f 60 [xA, xB, xC] 2 1 3 [120] [] 3 = some true := by kernel_rfl
theorem kn15_6 : redpencillaw15_inserts.f 60 [xA, xB, xC] 1 1 0 [120] [] 11 = some true := by kernel_rfl
theorem kn15_7 : redpencillaw15_inserts.f 60 [xA, xB, xC] 2 4294967295 0 [120, 121] [] 14 = some true := by kernel_rfl
theorem kn15_8 : redpencillaw15_inserts.f 60 [xA, xB, xC] 2 1 0 [0] [] 13 = some true := by kernel_rfl
theorem kn15_9 : redpencillaw15_deletes.f 60 [xA, xB, xC] 0 3 [] 3 = some true := by kernel_rfl
theorem kn15_10 : edit_Latest.f 60 [xA, xB, xC] = some 3 := by kernel_rfl
end
section
theorem run_runes {W : World} {A0 : Option Addr} {c0 : Nat} {l0 : List Int} (hC : Kd.C (Kd.int .i32) W A0 l0.length l0) : (convert 26 9 (.slice A0 l0.length c0)).run Tryz.prog W = .ok (.string (runesBytes l0)) W := by
 by_cases h0 : 0 < l0.length
 ·
  obtain ⟨x, hx⟩ : ∃ x, l0[0]? = some x := ⟨_, List.getElem?_eq_getElem h0⟩
  obtain ⟨ad, rfl, _⟩ := rune_at hC (Below.refl _ W) 0 x hx
  have := run_convert_runes (P := Tryz.prog) W 26 9 21 ad l0.length c0 l0 (Nat.le_refl _) Tryz.underlying26 Tryz.underlying21 Tryz.underlying9 (fun j hj => by
   obtain ⟨ad2, e2, hc⟩ := rune_at hC (Below.refl _ W) j l0[j] (List.getElem?_eq_getElem hj)
   cases e2
   rw [hc]; simp [List.getD, hj])
  rw [List.take_length] at this
  exact this
 ·
  obtain rfl : l0 = [] := List.eq_nil_of_length_eq_zero (by omega)
  cases A0 with
  | none => exact run_convert_runes_nil (P := Tryz.prog) W 26 9 21 _ _ Tryz.underlying26 Tryz.underlying21 Tryz.underlying9
  | some ad => exact run_convert_runes (P := Tryz.prog) W 26 9 21 ad 0 c0 [] (Nat.le_refl _) Tryz.underlying26 Tryz.underlying21 Tryz.underlying9 (fun j hj => absurd hj (Nat.not_lt_zero _))
theorem texts_call (k : Nat) (A0 : Option Addr) (c0 : Nat) (l0 : List Node) (A1 : Option Addr) (c1 : Nat) (l1 : List Node) (want : ByteArray) (x : List Node) (rs : List Int) (w : World) (hr0 : Kd.C k53 w A0 l0.length l0) (hc0 : l0.length ≤ c0) (hr1 : Kd.C k53 w A1 l1.length l1) (hc1 : l1.length ≤ c1) (h : edit_Apply.f k l0 l1 = some (x, rs, 0)) (hw : runesBytes rs = want) :
  Calls Tryz.prog 36 #[.slice A0 l0.length c0, .slice A1 l1.length c1, .string want] w fun e w' => e = .returned (.bool true) ∧ Below w.heap.size w w' := by
 have HA := za0.mk (edit_Apply.calls k A0 c0 l0 A1 c1 l1 x rs 0 w hr0 hc0 hr1 hc1 h)
 have HW := za0.mk hw
 clear hr0 hc0 hr1 hc1 h hw
 go_enter Tryz.func36, Tryz.ntmps36
 go_wp2_with fail
 refine HA.out.mono ?_
 rintro e V ⟨v0, v1, rfl, hr0, hr1, hb⟩
 obtain ⟨A2, c2, rfl⟩ := Kd.R_slice hr1
 have hcv := run_runes (c0 := c2) (Kd.R_reads' hr1).2.2
 rw [HW.out] at hcv
 have HB := za0.mk hb
 clear hr0 hr1 hb HA
 go_wp2_with fail
 go_ret
 exact ⟨rfl, HB.out⟩
theorem grown_cell {V W : World} {g : Nat} (h : V.grownBy W (some g)) (j : Nat) (u : Value) : V.grownBy (W.setCell ⟨g, j, none⟩ u) (some g) :=
 ⟨h.os, h.tape, h.output, by rw [World.size_setCell]; exact h.size, fun k hk hne => (Below.heap_setCell W _ u k (fun e => hne (by rw [e]))).trans (h.block k hk hne)⟩
theorem nilNs {W : World} : Kd.C k53 W none 0 ([] : List Node) := ⟨rfl, by decide, fun h => absurd h (by decide)⟩
/-- What lies ready for the calls of known. -/
structure K15 (w : World) (gS gX gZ g6 : Nat) (V : World) : Prop where
 below : Below w.heap.size w V
 s : Kd.C k53 V (some ⟨gS, 0, none⟩) 3 [xA, xB, xC]
 x : Kd.C k53 V (some ⟨gX, 0, none⟩) 2 [xX, xY]
 z : Kd.C k53 V (some ⟨gZ, 0, none⟩) 3 [xG, xZ, xL]
 also : V.heap[g6]? = some (boxN xL)
theorem K15.more {w : World} {gS gX gZ g6 : Nat} {V V' : World} (h : K15 w gS gX gZ g6 V) (hb : Below V.heap.size V V') : K15 w gS gX gZ g6 V' := ⟨za5 h.below hb, Kd.C_below h.s hb, Kd.C_below h.x hb, Kd.C_below h.z hb, za7 h.also hb⟩
/-- Two copies come up. -/
structure K5 (W0 : World) (l2 l3 l4 l5 : Bool) (g5 g6 : Nat) (V : World) : Prop where
 ord4 : l4 = true → l2 = true
 ord5 : l5 = true → l3 = true
 below : Below W0.heap.size W0 V
 z5 : l2 = true → l4 = false → V.heap[g5]? = some boxZ
 x5 : l4 = true → V.heap[g5]? = some (boxN xA)
 z6 : l3 = true → l5 = false → V.heap[g6]? = some boxZ
 x6 : l5 = true → V.heap[g6]? = some (boxN xC)
 ge5 : l2 = true → W0.heap.size ≤ g5
 ge6 : l3 = true → W0.heap.size ≤ g6
 ne : l2 = true → l3 = true → g5 ≠ g6
structure K8 (W0 : World) (l4 l5 : Bool) (gZ : Nat) (V : World) : Prop where
 below : Below W0.heap.size W0 V
 z : l4 = true → RN V W0.heap.size (.slice (some ⟨gZ, 0, none⟩) 3 3) [xG, xZ, xL]
 ord : l5 = true → l4 = true
def kf5Inv (W0 : World) (gA gC : Nat) (z0 z2 z4 z5 z6 z7 z8 z9 z10 z11 z12 z13 z14 z15 z16 z17 z18 z19 z20 z21 z22 z23 z24 z25 z26 z27 z28 z29 z30 z31 z32 z33 z34 z35 z36 z37 z38 z39 z40 z41 z42 z43 z44 z45 z46 z47 z48 z49 z50 z51 z52 z53 z54 z55 z56 z57 z58 z59 z60 z61 z62 z63 z64 z65 z66 z67 z68 z69 z70 z71 z72 z73 z74 z75 z76 z77 z78 z79 z80 z81 z82 z83 z84 z85 z86 z87 z88 z89 z90 z91 z92 z93 z94 z95 z96 z97 z98 z99 z100 z101 z102 : Value) (L : Array Bool) (ac : Act) (V : World) : Prop := ∃ (l0 l1 l2 l3 l4 l5 : Bool) (g5 : Nat) (g6 : Nat), L = #[l0, l1, l2, l3, l4, l5] ∧ ac = { tmps := #[z0, .pointer (some ⟨gA, 0, none⟩), z2, .pointer (some ⟨gC, 0, none⟩), z4, selv l2 (.pointer (some ⟨g5, 0, none⟩)) (z5), selv l3 (.pointer (some ⟨g6, 0, none⟩)) (z6), z7, z8, z9, z10, z11, z12, z13, z14, z15, z16, z17, z18, z19, z20, z21, selv l0 (vNode xA) (z22), selv l1 (vNode xC) (z23), z24, z25, z26, z27, z28, z29, z30, z31, z32, z33, z34, z35, z36, z37, z38, z39, z40, z41, z42, z43, z44, z45, z46, z47, z48, z49, z50, z51, z52, z53, z54, z55, z56, z57, z58, z59, z60, z61, z62, z63, z64, z65, z66, z67, z68, z69, z70, z71, z72, z73, z74, z75, z76, z77, z78, z79, z80, z81, z82, z83, z84, z85, z86, z87, z88, z89, z90, z91, z92, z93, z94, z95, z96, z97, z98, z99, z100, z101, z102], defers := [] } ∧ za0 (K5 W0 l2 l3 l4 l5 g5 g6 V)
def kf8Inv (W0 : World) (g5 g6 : Nat) (z0 z1 z2 z3 z4 z7 z8 z9 z10 z11 z12 z13 z14 z15 z16 z17 z18 z19 z20 z21 z22 z23 z24 z25 z26 z27 z28 z29 z30 z31 z32 z33 z34 z35 z36 z37 z38 z39 z40 z41 z42 z43 z44 z45 z46 z47 z48 z49 z50 z51 z52 z53 z54 z55 z56 z57 z58 z59 z60 z61 z62 z63 z64 z65 z66 z67 z68 z69 z70 z71 z72 z73 z74 z75 z76 z77 z78 z79 z80 z81 z82 z83 z84 z85 z86 z87 z88 z89 z90 z91 z92 z93 z94 z95 z96 z97 z98 z99 z100 z101 z102 : Value) (L : Array Bool) (ac : Act) (V : World) : Prop := ∃ (l0 l1 l2 l3 l4 l5 : Bool) (gZ : Nat), L = #[l0, l1, l2, l3, l4, l5] ∧ ac = { tmps := #[z0, z1, z2, z3, z4, .pointer (some ⟨g5, 0, none⟩), .pointer (some ⟨g6, 0, none⟩), z7, selv l5 (.slice (some ⟨gZ, 0, none⟩) 3 3) (z8), z9, z10, z11, z12, z13, z14, z15, z16, z17, z18, z19, z20, z21, z22, z23, z24, z25, z26, z27, z28, z29, z30, z31, z32, selv l0 (vNode xG) (z33), selv l1 (vDot ⟨2, 1⟩) (z34), selv l2 (vNode xZ) (z35), selv l3 (vNode xL) (z36), selv l4 (.slice (some ⟨gZ, 0, none⟩) 3 3) (z37), z38, z39, z40, z41, z42, z43, z44, z45, z46, z47, z48, z49, z50, z51, z52, z53, z54, z55, z56, z57, z58, z59, z60, z61, z62, z63, z64, z65, z66, z67, z68, z69, z70, z71, z72, z73, z74, z75, z76, z77, z78, z79, z80, z81, z82, z83, z84, z85, z86, z87, z88, z89, z90, z91, z92, z93, z94, z95, z96, z97, z98, z99, z100, z101, z102], defers := [] } ∧ za0 (K8 W0 l4 l5 gZ V)
set_option maxHeartbeats 4000000 in
set_option maxRecDepth 100000 in
theorem known15_call (w : World) : Calls Tryz.prog 10 #[] w fun e w' => e = .returned (.bool true) ∧ Below w.heap.size w w' := by
 have hu := Tryz.underlying53
 have hu2 := Tryz.underlying25
 go_enter Tryz.func10, Tryz.ntmps10
 have HB : za0 (Below w.heap.size w w) := ⟨Below.refl _ _⟩
 go_wp2_with fail
 refine (redpencillaw15_dot.calls 1 1 1 1 _ rfl).mono ?_
 rintro e V1 ⟨rfl, hb⟩
 have HB := za0.mk (za5 HB.out hb)
 clear hb
 have hb0 := za2 (Below.refl V1.heap.size V1) (boxN xA)
 have H1 := za0.mk (zal V1 (boxN xA))
 have HB := za0.mk (za5 HB.out hb0)
 clear hb0
 go_wp2_with fail
 refine (redpencillaw15_dot.calls 1 2 1 2 (V1.alloc (boxN xA)) rfl).mono ?_
 rintro e V2 ⟨rfl, hb⟩
 have H1 := za0.mk (za7 H1.out hb)
 have HB := za0.mk (za5 HB.out hb)
 clear hb
 go_wp2_with fail
 refine (redpencillaw15_dot.calls 1 1 1 1 V2 rfl).mono ?_
 rintro e V3 ⟨rfl, hb⟩
 have H1 := za0.mk (za7 H1.out hb)
 have HB := za0.mk (za5 HB.out hb)
 clear hb
 have hb0 := za2 (Below.refl V3.heap.size V3) (boxN xB)
 have H2 := za0.mk (zal V3 (boxN xB))
 have H1 := za0.mk (za7 H1.out hb0)
 have HB := za0.mk (za5 HB.out hb0)
 clear hb0
 go_wp2_with fail
 refine (redpencillaw15_dot.calls 1 3 1 3 (V3.alloc (boxN xB)) rfl).mono ?_
 rintro e V4 ⟨rfl, hb⟩
 have H1 := za0.mk (za7 H1.out hb)
 have H2 := za0.mk (za7 H2.out hb)
 have HB := za0.mk (za5 HB.out hb)
 clear hb
 go_wp2_with fail
 refine (redpencillaw15_dot.calls 1 2 1 2 V4 rfl).mono ?_
 rintro e V5 ⟨rfl, hb⟩
 have H1 := za0.mk (za7 H1.out hb)
 have H2 := za0.mk (za7 H2.out hb)
 have HB := za0.mk (za5 HB.out hb)
 clear hb
 have hb0 := za2 (Below.refl V5.heap.size V5) (boxN xC)
 have H3 := za0.mk (zal V5 (boxN xC))
 have H1 := za0.mk (za7 H1.out hb0)
 have H2 := za0.mk (za7 H2.out hb0)
 have HB := za0.mk (za5 HB.out hb0)
 clear hb0
 have a0 : (V5.alloc (.cells #[.int .i64 1, .int .i64 3, .int .i64 1, .int .i64 2, .int .i64 3, .int .i32 99] 53 (0, 0) : Obj)).cell? ⟨V1.heap.size, 0, none⟩ = some (.int .i64 1) := (za4 H1.out 0).trans rfl
 have a1 : (V5.alloc (.cells #[.int .i64 1, .int .i64 3, .int .i64 1, .int .i64 2, .int .i64 3, .int .i32 99] 53 (0, 0) : Obj)).cell? ⟨V1.heap.size, 1, none⟩ = some (.int .i64 1) := (za4 H1.out 1).trans rfl
 have a2 : (V5.alloc (.cells #[.int .i64 1, .int .i64 3, .int .i64 1, .int .i64 2, .int .i64 3, .int .i32 99] 53 (0, 0) : Obj)).cell? ⟨V1.heap.size, 2, none⟩ = some (.int .i64 0) := (za4 H1.out 2).trans rfl
 have a3 : (V5.alloc (.cells #[.int .i64 1, .int .i64 3, .int .i64 1, .int .i64 2, .int .i64 3, .int .i32 99] 53 (0, 0) : Obj)).cell? ⟨V1.heap.size, 3, none⟩ = some (.int .i64 0) := (za4 H1.out 3).trans rfl
 have a4 : (V5.alloc (.cells #[.int .i64 1, .int .i64 3, .int .i64 1, .int .i64 2, .int .i64 3, .int .i32 99] 53 (0, 0) : Obj)).cell? ⟨V1.heap.size, 4, none⟩ = some (.int .i64 1) := (za4 H1.out 4).trans rfl
 have a5 : (V5.alloc (.cells #[.int .i64 1, .int .i64 3, .int .i64 1, .int .i64 2, .int .i64 3, .int .i32 99] 53 (0, 0) : Obj)).cell? ⟨V1.heap.size, 5, none⟩ = some (.int .i32 97) := (za4 H1.out 5).trans rfl
 have b0 : (V5.alloc (.cells #[.int .i64 1, .int .i64 3, .int .i64 1, .int .i64 2, .int .i64 3, .int .i32 99] 53 (0, 0) : Obj)).cell? ⟨V3.heap.size, 0, none⟩ = some (.int .i64 1) := (za4 H2.out 0).trans rfl
 have b1 : (V5.alloc (.cells #[.int .i64 1, .int .i64 3, .int .i64 1, .int .i64 2, .int .i64 3, .int .i32 99] 53 (0, 0) : Obj)).cell? ⟨V3.heap.size, 1, none⟩ = some (.int .i64 2) := (za4 H2.out 1).trans rfl
 have b2 : (V5.alloc (.cells #[.int .i64 1, .int .i64 3, .int .i64 1, .int .i64 2, .int .i64 3, .int .i32 99] 53 (0, 0) : Obj)).cell? ⟨V3.heap.size, 2, none⟩ = some (.int .i64 1) := (za4 H2.out 2).trans rfl
 have b3 : (V5.alloc (.cells #[.int .i64 1, .int .i64 3, .int .i64 1, .int .i64 2, .int .i64 3, .int .i32 99] 53 (0, 0) : Obj)).cell? ⟨V3.heap.size, 3, none⟩ = some (.int .i64 1) := (za4 H2.out 3).trans rfl
 have b4 : (V5.alloc (.cells #[.int .i64 1, .int .i64 3, .int .i64 1, .int .i64 2, .int .i64 3, .int .i32 99] 53 (0, 0) : Obj)).cell? ⟨V3.heap.size, 4, none⟩ = some (.int .i64 2) := (za4 H2.out 4).trans rfl
 have b5 : (V5.alloc (.cells #[.int .i64 1, .int .i64 3, .int .i64 1, .int .i64 2, .int .i64 3, .int .i32 99] 53 (0, 0) : Obj)).cell? ⟨V3.heap.size, 5, none⟩ = some (.int .i32 0) := (za4 H2.out 5).trans rfl
 have c0 : (V5.alloc (.cells #[.int .i64 1, .int .i64 3, .int .i64 1, .int .i64 2, .int .i64 3, .int .i32 99] 53 (0, 0) : Obj)).cell? ⟨V5.heap.size, 0, none⟩ = some (.int .i64 1) := (za4 H3.out 0).trans rfl
 have c1 : (V5.alloc (.cells #[.int .i64 1, .int .i64 3, .int .i64 1, .int .i64 2, .int .i64 3, .int .i32 99] 53 (0, 0) : Obj)).cell? ⟨V5.heap.size, 1, none⟩ = some (.int .i64 3) := (za4 H3.out 1).trans rfl
 have c2 : (V5.alloc (.cells #[.int .i64 1, .int .i64 3, .int .i64 1, .int .i64 2, .int .i64 3, .int .i32 99] 53 (0, 0) : Obj)).cell? ⟨V5.heap.size, 2, none⟩ = some (.int .i64 1) := (za4 H3.out 2).trans rfl
 have c3 : (V5.alloc (.cells #[.int .i64 1, .int .i64 3, .int .i64 1, .int .i64 2, .int .i64 3, .int .i32 99] 53 (0, 0) : Obj)).cell? ⟨V5.heap.size, 3, none⟩ = some (.int .i64 2) := (za4 H3.out 3).trans rfl
 have c4 : (V5.alloc (.cells #[.int .i64 1, .int .i64 3, .int .i64 1, .int .i64 2, .int .i64 3, .int .i32 99] 53 (0, 0) : Obj)).cell? ⟨V5.heap.size, 4, none⟩ = some (.int .i64 3) := (za4 H3.out 4).trans rfl
 have c5 : (V5.alloc (.cells #[.int .i64 1, .int .i64 3, .int .i64 1, .int .i64 2, .int .i64 3, .int .i32 99] 53 (0, 0) : Obj)).cell? ⟨V5.heap.size, 5, none⟩ = some (.int .i32 99) := (za4 H3.out 5).trans rfl
 go_wp2_with fail
 clear a0 a1 a2 a3 a4 a5 b0 b1 b2 b3 b4 b5 c0 c1 c2 c3 c4 c5
 have hb0 := za2 (Below.refl _ (V5.alloc (boxN xC))) (.cells #[.int .i64 1, .int .i64 1, .int .i64 0, .int .i64 0, .int .i64 1, .int .i32 97, .int .i64 1, .int .i64 2, .int .i64 1, .int .i64 1, .int .i64 2, .int .i32 0, .int .i64 1, .int .i64 3, .int .i64 1, .int .i64 2, .int .i64 3, .int .i32 99] 53 (0, 0) : Obj)
 have HS := za0.mk (Kd.R_reads' (lit_nodes (V5.alloc (boxN xC)) 0 (Nat.zero_le _) [xA, xB, xC] 3 rfl (by decide) (by decide) #[.int .i64 1, .int .i64 1, .int .i64 0, .int .i64 0, .int .i64 1, .int .i32 97, .int .i64 1, .int .i64 2, .int .i64 1, .int .i64 1, .int .i64 2, .int .i32 0, .int .i64 1, .int .i64 3, .int .i64 1, .int .i64 2, .int .i64 3, .int .i32 99] rfl)).2.2
 have H1 := za0.mk (za7 H1.out hb0)
 have H3 := za0.mk (za7 H3.out hb0)
 have HB := za0.mk (za5 HB.out hb0)
 clear hb0 H2
 obtain ⟨V6, HV6⟩ : ∃ V6, V6 = ((V5.alloc (.cells #[.int .i64 1, .int .i64 3, .int .i64 1, .int .i64 2, .int .i64 3, .int .i32 99] 53 (0, 0) : Obj)).alloc (.cells #[.int .i64 1, .int .i64 1, .int .i64 0, .int .i64 0, .int .i64 1, .int .i32 97, .int .i64 1, .int .i64 2, .int .i64 1, .int .i64 1, .int .i64 2, .int .i32 0, .int .i64 1, .int .i64 3, .int .i64 1, .int .i64 2, .int .i64 3, .int .i32 99] 53 (0, 0) : Obj)) := ⟨_, rfl⟩
 have HS : za0 (Kd.C k53 V6 (some ⟨V5.heap.size + 1, 0, none⟩) 3 [xA, xB, xC]) := ⟨by rw [HV6]; have := HS.out; rw [show (V5.alloc (boxN xC)).heap.size = V5.heap.size + 1 by simp] at this; exact this⟩
 have H1 : za0 (V6.heap[V1.heap.size]? = some (boxN xA)) := ⟨by rw [HV6]; exact H1.out⟩
 have H3 : za0 (V6.heap[V5.heap.size]? = some (boxN xC)) := ⟨by rw [HV6]; exact H3.out⟩
 have HB : za0 (Below w.heap.size w V6) := ⟨by rw [HV6]; exact HB.out⟩
 try rw [show ((V5.alloc (.cells #[.int .i64 1, .int .i64 3, .int .i64 1, .int .i64 2, .int .i64 3, .int .i32 99] 53 (0, 0) : Obj)).alloc (.cells #[.int .i64 1, .int .i64 1, .int .i64 0, .int .i64 0, .int .i64 1, .int .i32 97, .int .i64 1, .int .i64 2, .int .i64 1, .int .i64 1, .int .i64 2, .int .i32 0, .int .i64 1, .int .i64 3, .int .i64 1, .int .i64 2, .int .i64 3, .int .i32 99] 53 (0, 0) : Obj)) = V6 from HV6.symm]
 refine AnyOrder.wp_region (by kernel_rfl) (kf5Inv V6.drew V1.heap.size V5.heap.size _ _ _ _ _ _ _ _ _ _ _ _ _ _ _ _ _ _ _ _ _ _ _ _ _ _ _ _ _ _ _ _ _ _ _ _ _ _ _ _ _ _ _ _ _ _ _ _ _ _ _ _ _ _ _ _ _ _ _ _ _ _ _ _ _ _ _ _ _ _ _ _ _ _ _ _ _ _ _ _ _ _ _ _ _ _ _ _ _ _ _ _ _ _ _ _ _ _ _ _ _) ⟨false, false, false, false, false, false, 0, 0, rfl, rfl, ⟨⟨fun h => (by cases h), fun h => (by cases h), Below.refl _ _, fun h _ => (by cases h), fun h => (by cases h), fun h _ => (by cases h), fun h => (by cases h), fun h => (by cases h), fun h => (by cases h), fun h _ => (by cases h)⟩⟩⟩ ?step ?last
 case step =>
  rintro L ac V i ⟨l0, l1, l2, l3, l4, l5, g5, g6, rfl, rfl, HF⟩ hi K hK
  rcases AnyOrder.up hi [0, 1, 2, 3, 4, 5] rfl with rfl | rfl | rfl | rfl | rfl | rfl
  all_goals
   replace hi := AnyOrder.first hi rfl
   repeat (obtain ⟨ha, hi⟩ := hi; first | obtain rfl := ha | clear ha)
   clear hi
   try simp only [sel_true, selv_true] at hK ⊢
  ·
   obtain ⟨q0, q1, q2, q3, q4, q5⟩ := box_six (za7 (zai H1.out) HF.out.below)
   refine AnyOrder.wpOp_go rfl (by rfl) ?_
   go_wp2_with fail
   exact ⟨_, _, _, _, _, _, g5, g6, rfl, rfl, HF⟩
  ·
   obtain ⟨q0, q1, q2, q3, q4, q5⟩ := box_six (za7 (zai H3.out) HF.out.below)
   refine AnyOrder.wpOp_go rfl (by rfl) ?_
   go_wp2_with fail
   exact ⟨_, _, _, _, _, _, g5, g6, rfl, rfl, HF⟩
  ·
   obtain rfl : l4 = false := by cases l4 with | false => rfl | true => cases HF.out.ord4 rfl
   have hb1 := za2 (Below.refl _ V) boxZ
   refine AnyOrder.wpOp_go rfl (by rfl) ?_
   go_wp2_with fail
   exact ⟨_, _, _, _, _, _, V.heap.size, g6, rfl, rfl, ⟨⟨fun h => (by cases h), HF.out.ord5, za5 HF.out.below hb1, fun _ _ => zal _ _, fun h => (by cases h), fun h k => za7 (HF.out.z6 h k) hb1, fun h => za7 (HF.out.x6 h) hb1, fun _ => HF.out.below.size, HF.out.ge6, fun _ h => Nat.ne_of_gt (by cases l5 with | false => exact zan (HF.out.z6 h rfl) | true => exact zan (HF.out.x6 rfl))⟩⟩⟩
  ·
   obtain rfl : l5 = false := by cases l5 with | false => rfl | true => cases HF.out.ord5 rfl
   have hb1 := za2 (Below.refl _ V) boxZ
   refine AnyOrder.wpOp_go rfl (by rfl) ?_
   go_wp2_with fail
   exact ⟨_, _, _, _, _, _, g5, V.heap.size, rfl, rfl, ⟨⟨HF.out.ord4, fun h => (by cases h), za5 HF.out.below hb1, fun h k => za7 (HF.out.z5 h k) hb1, fun h => za7 (HF.out.x5 h) hb1, fun _ _ => zal _ _, fun h => (by cases h), HF.out.ge5, fun _ => HF.out.below.size, fun h _ => Nat.ne_of_lt (by cases l4 with | false => exact zan (HF.out.z5 h rfl) | true => exact zan (HF.out.x5 rfl))⟩⟩⟩
  ·
   refine AnyOrder.wpOp_go rfl (by rfl) ?_
   refine op_boxNode (.tmp 5) (.tmp 22) rfl rfl (HF.out.z5 rfl rfl) xA rfl rfl ?_
   intro W4 h1 h2
   have far : ∀ {q : Nat} {o : Obj}, V.heap[q]? = some o → q ≠ g5 → W4.heap[q]? = some o := fun hq hn => (h2.block _ (zan hq) (fun e => hn (Option.some.inj e))).trans hq
   exact hK _ _ ⟨_, _, _, _, _, _, g5, g6, rfl, rfl, ⟨⟨fun _ => rfl, HF.out.ord5, HF.out.below.grown h2 HF.out.below.size (fun q e => by cases e; exact HF.out.ge5 rfl), fun _ h => (by cases h), fun _ => h1, fun h k => far (HF.out.z6 h k) (fun e => HF.out.ne rfl h e.symm), fun h => far (HF.out.x6 h) (fun e => HF.out.ne rfl (HF.out.ord5 h) e.symm), HF.out.ge5, HF.out.ge6, HF.out.ne⟩⟩⟩
  ·
   refine AnyOrder.wpOp_go rfl (by rfl) ?_
   refine op_boxNode (.tmp 6) (.tmp 23) rfl rfl (HF.out.z6 rfl rfl) xC rfl rfl ?_
   intro W4 h1 h2
   have far : ∀ {q : Nat} {o : Obj}, V.heap[q]? = some o → q ≠ g6 → W4.heap[q]? = some o := fun hq hn => (h2.block _ (zan hq) (fun e => hn (Option.some.inj e))).trans hq
   exact hK _ _ ⟨_, _, _, _, _, _, g5, g6, rfl, rfl, ⟨⟨HF.out.ord4, fun _ => rfl, HF.out.below.grown h2 HF.out.below.size (fun q e => by cases e; exact HF.out.ge6 rfl), fun h k => far (HF.out.z5 h k) (fun e => HF.out.ne h rfl e), fun h => far (HF.out.x5 h) (fun e => HF.out.ne (HF.out.ord4 h) rfl e), fun _ h => (by cases h), fun _ => h1, HF.out.ge5, HF.out.ge6, HF.out.ne⟩⟩⟩
 case last =>
  rintro L ac V ⟨l0, l1, l2, l3, l4, l5, g5, g6, rfl, rfl, HF⟩ hr
  obtain ⟨rfl, rfl, rfl, rfl, rfl, rfl, -⟩ := AnyOrder.alls rfl (by kernel_rfl) hr
  clear hr
  simp only [sel_true, selv_true]
  have H5 := za0.mk (HF.out.x5 rfl)
  have H6 := za0.mk (HF.out.x6 rfl)
  have HNE := za0.mk (HF.out.ne rfl rfl)
  have hbb := za5 (za3 (Below.refl _ V6)) HF.out.below
  have HG : za0 (V6.heap.size ≤ g5 ∧ V6.heap.size ≤ g6) := ⟨HF.out.ge5 rfl, HF.out.ge6 rfl⟩
  have HB6 := za0.mk hbb
  clear HF hbb H1 H3
  generalize V = V7 at *
  have c5 : V7.cell? ⟨g5, 5, none⟩ = some (.int .i32 97) := (za4 H5.out 5).trans rfl
  have f5 := za6 H5.out 5
  have h6 : (V7.setCell ⟨g5, 5, none⟩ (.int .i32 0)).heap[g6]? = some (boxN xC) := by rw [far_setCell (fun e => HNE.out e.symm)]; exact H6.out
  have c6 : (V7.setCell ⟨g5, 5, none⟩ (.int .i32 0)).cell? ⟨g6, 5, none⟩ = some (.int .i32 99) := (za4 h6 5).trans rfl
  have f6 := za6 h6 5
  have K6 := za0.mk (blk_set h6 5 (.int .i32 0))
  have k5 := blk_set H5.out 5 (.int .i32 0)
  have K5 : za0 (((V7.setCell ⟨g5, 5, none⟩ (.int .i32 0)).setCell ⟨g6, 5, none⟩ (.int .i32 0)).heap[g5]? = some (boxN xG)) := ⟨by rw [far_setCell HNE.out]; exact k5⟩
  have K6 : za0 (((V7.setCell ⟨g5, 5, none⟩ (.int .i32 0)).setCell ⟨g6, 5, none⟩ (.int .i32 0)).heap[g6]? = some (boxN xL)) := ⟨K6.out⟩
  have HB7 : za0 (Below V6.heap.size V6 ((V7.setCell ⟨g5, 5, none⟩ (.int .i32 0)).setCell ⟨g6, 5, none⟩ (.int .i32 0))) := ⟨by
   have h1 := HB6.out.grown (grown_cell (V := V7) (W := V7) ⟨rfl, rfl, rfl, Nat.le_refl _, fun _ _ _ => rfl⟩ 5 (.int .i32 0)) HB6.out.size (fun q e => by cases e; exact HG.out.1)
   exact h1.grown (grown_cell (V := V7.setCell ⟨g5, 5, none⟩ (.int .i32 0)) (W := V7.setCell ⟨g5, 5, none⟩ (.int .i32 0)) ⟨rfl, rfl, rfl, Nat.le_refl _, fun _ _ _ => rfl⟩ 5 (.int .i32 0)) h1.size (fun q e => by cases e; exact HG.out.2)⟩
  clear k5 h6
  go_wp2_with fail
  clear c5 f5 c6 f6
  have HB := za0.mk (za5 HB.out HB7.out)
  have HS := za0.mk (Kd.C_below HS.out HB7.out)
  clear HB6 HB7 H5 H6 HNE HG
  generalize (V7.setCell ⟨g5, 5, none⟩ (.int .i32 0)).setCell ⟨g6, 5, none⟩ (.int .i32 0) = V8 at *
  generalize V5.heap.size + 1 = gS at *
  refine (redpencillaw15_dot.calls 2 1 2 1 V8 rfl).mono ?_
  rintro e V9 ⟨rfl, hb⟩
  have HB := za0.mk (za5 HB.out hb)
  have HS := za0.mk (Kd.C_below HS.out hb)
  have K5 := za0.mk (za7 K5.out hb)
  have K6 := za0.mk (za7 K6.out hb)
  clear hb
  go_wp2_with fail
  refine (redpencillaw15_dot.calls 1 1 1 1 V9 rfl).mono ?_
  rintro e V10 ⟨rfl, hb⟩
  have HB := za0.mk (za5 HB.out hb)
  have HS := za0.mk (Kd.C_below HS.out hb)
  have K5 := za0.mk (za7 K5.out hb)
  have K6 := za0.mk (za7 K6.out hb)
  clear hb
  go_wp2_with fail
  refine (redpencillaw15_dot.calls 2 2 2 2 V10 rfl).mono ?_
  rintro e V11 ⟨rfl, hb⟩
  have HB := za0.mk (za5 HB.out hb)
  have HS := za0.mk (Kd.C_below HS.out hb)
  have K5 := za0.mk (za7 K5.out hb)
  have K6 := za0.mk (za7 K6.out hb)
  clear hb
  go_wp2_with fail
  refine (redpencillaw15_dot.calls 2 1 2 1 V11 rfl).mono ?_
  rintro e V12 ⟨rfl, hb⟩
  have HB := za0.mk (za5 HB.out hb)
  have HS := za0.mk (Kd.C_below HS.out hb)
  have K5 := za0.mk (za7 K5.out hb)
  have K6 := za0.mk (za7 K6.out hb)
  clear hb
  go_wp2_with fail
  have hb := za2 (Below.refl V12.heap.size V12) (.cells #[.int .i64 2, .int .i64 1, .int .i64 1, .int .i64 1, .int .i64 4, .int .i32 120, .int .i64 2, .int .i64 2, .int .i64 2, .int .i64 1, .int .i64 5, .int .i32 121] 53 (0, 0) : Obj)
  have HX := za0.mk (Kd.R_reads' (lit_nodes V12 0 (Nat.zero_le _) [xX, xY] 2 rfl (by decide) (by decide) #[.int .i64 2, .int .i64 1, .int .i64 1, .int .i64 1, .int .i64 4, .int .i32 120, .int .i64 2, .int .i64 2, .int .i64 2, .int .i64 1, .int .i64 5, .int .i32 121] rfl)).2.2
  have HB := za0.mk (za5 HB.out hb)
  have HS := za0.mk (Kd.C_below HS.out hb)
  have K5 := za0.mk (za7 K5.out hb)
  have K6 := za0.mk (za7 K6.out hb)
  clear hb
  obtain ⟨V13, HV13⟩ : ∃ V13, V13 = V12.alloc (.cells #[.int .i64 2, .int .i64 1, .int .i64 1, .int .i64 1, .int .i64 4, .int .i32 120, .int .i64 2, .int .i64 2, .int .i64 2, .int .i64 1, .int .i64 5, .int .i32 121] 53 (0, 0) : Obj) := ⟨_, rfl⟩
  rw [← HV13] at HB HS K5 K6 HX
  try rw [show V12.alloc (.cells #[.int .i64 2, .int .i64 1, .int .i64 1, .int .i64 1, .int .i64 4, .int .i32 120, .int .i64 2, .int .i64 2, .int .i64 2, .int .i64 1, .int .i64 5, .int .i32 121] 53 (0, 0) : Obj) = V13 from HV13.symm]
  refine AnyOrder.wp_region (by kernel_rfl) (kf8Inv V13.drew g5 g6 _ _ _ _ _ _ _ _ _ _ _ _ _ _ _ _ _ _ _ _ _ _ _ _ _ _ _ _ _ _ _ _ _ _ _ _ _ _ _ _ _ _ _ _ _ _ _ _ _ _ _ _ _ _ _ _ _ _ _ _ _ _ _ _ _ _ _ _ _ _ _ _ _ _ _ _ _ _ _ _ _ _ _ _ _ _ _ _ _ _ _ _ _ _ _ _ _ _ _ _ _) ⟨false, false, false, false, false, false, 0, rfl, rfl, ⟨⟨Below.refl _ _, fun h => (by cases h), fun h => (by cases h)⟩⟩⟩ ?step ?last
  case step =>
   rintro L ac V i ⟨l0, l1, l2, l3, l4, l5, gZ, rfl, rfl, HF⟩ hi K hK
   rcases AnyOrder.up hi [0, 1, 2, 3, 4, 5] rfl with rfl | rfl | rfl | rfl | rfl | rfl
   all_goals
    replace hi := AnyOrder.first hi rfl
    repeat (obtain ⟨ha, hi⟩ := hi; first | obtain rfl := ha | clear ha)
    clear hi
    try simp only [sel_true, selv_true] at hK ⊢
   ·
    obtain ⟨q0, q1, q2, q3, q4, q5⟩ := box_six (za7 (zai K5.out) HF.out.below)
    refine AnyOrder.wpOp_go rfl (by rfl) ?_
    go_wp2_with fail
    exact ⟨_, _, _, _, _, _, gZ, rfl, rfl, HF⟩
   ·
    refine AnyOrder.wpOp_go rfl (by rfl) ?_
    go_wp2_with fail
    refine (redpencillaw15_dot.calls 2 1 2 1 V rfl).mono ?_
    rintro e V' ⟨rfl, hb⟩
    exact hK _ _ ⟨_, _, _, _, _, _, gZ, rfl, rfl, ⟨⟨za5 HF.out.below hb, fun h => RN.below' (HF.out.z h) hb, HF.out.ord⟩⟩⟩
   ·
    refine AnyOrder.wpOp_go rfl (by rfl) ?_
    go_wp2_with fail
    exact ⟨_, _, _, _, _, _, gZ, rfl, rfl, HF⟩
   ·
    obtain ⟨q0, q1, q2, q3, q4, q5⟩ := box_six (za7 (zai K6.out) HF.out.below)
    refine AnyOrder.wpOp_go rfl (by rfl) ?_
    go_wp2_with fail
    exact ⟨_, _, _, _, _, _, gZ, rfl, rfl, HF⟩
   ·
    obtain rfl : l5 = false := by cases l5 with | false => rfl | true => cases HF.out.ord rfl
    (try simp only [selv_false] at hK ⊢)
    refine AnyOrder.wpOp_go rfl (by rfl) ?_
    go_wp2_with fail
    exact ⟨_, _, _, _, _, _, V.heap.size, rfl, rfl, ⟨⟨za5 HF.out.below (za2 (Below.refl _ V) _), fun _ => lit_nodes V V13.drew.heap.size HF.out.below.size [xG, xZ, xL] 3 rfl (by decide) (by decide) #[.int .i64 1, .int .i64 1, .int .i64 0, .int .i64 0, .int .i64 1, .int .i32 0, .int .i64 2, .int .i64 1, .int .i64 0, .int .i64 0, .int .i64 4, .int .i32 122, .int .i64 1, .int .i64 3, .int .i64 1, .int .i64 2, .int .i64 3, .int .i32 0] rfl, fun _ => rfl⟩⟩⟩
   ·
    refine AnyOrder.wpOp_go rfl (by rfl) ?_
    go_wp2_with fail
    exact ⟨_, _, _, _, _, _, gZ, rfl, rfl, ⟨⟨HF.out.below, HF.out.z, fun _ => rfl⟩⟩⟩
  case last =>
   rintro L ac V ⟨l0, l1, l2, l3, l4, l5, gZ, rfl, rfl, HF⟩ hr
   obtain ⟨rfl, rfl, rfl, rfl, rfl, rfl, -⟩ := AnyOrder.alls rfl (by kernel_rfl) hr
   clear hr
   simp only [sel_true, selv_true]
   have hbb := za5 (za3 (Below.refl _ V13)) HF.out.below
   have HK := za0.mk (show K15 w gS V12.heap.size gZ g6 V from ⟨za5 HB.out hbb, Kd.C_below HS.out hbb, Kd.C_below HX.out hbb, (Kd.R_reads' (HF.out.z rfl)).2.2, za7 K6.out hbb⟩)
   clear HF hbb HB HS HX K5 K6 HV13 HV6
   generalize V12.heap.size = gX at *
   generalize V = U0 at *
   go_wp2_with fail
   refine (redpencillaw15_dot.calls 2 1 2 1 _ rfl).mono ?_
   rintro e U1 ⟨rfl, hb⟩
   have HK := za0.mk (HK.out.more hb)
   clear hb
   go_wp2_with fail
   have hb := za2 (Below.refl _ U1) (.cells #[.int .i32 120, .int .i32 121] 21 (0, 0) : Obj)
   have HRR := za0.mk (zal U1 (.cells #[.int .i32 120, .int .i32 121] 21 (0, 0) : Obj))
   have HK := za0.mk (HK.out.more hb)
   clear hb
   refine (redpencillaw15_inserts.calls 60 _ 3 [xA, xB, xC] 2 1 1 _ 2 [120, 121] _ 2 [xX, xY] 0 true _ HK.out.s (Nat.le_refl _) (intRow_C [120, 121] _ rfl HRR.out (by decide)) (Nat.le_refl _) HK.out.x (Nat.le_refl _) kn15_0).mono ?_
   rintro e U2 ⟨rfl, hb⟩
   have HK := za0.mk (HK.out.more hb)
   clear hb
   clear HRR
   go_wp2_with fail
   refine (texts_call 60 _ 3 [xA, xB, xC] _ 2 [xX, xY] ⟨#[97, 120, 121, 99]⟩ _ _ _ HK.out.s (Nat.le_refl _) HK.out.x (Nat.le_refl _) kn15_1 (by kernel_rfl)).mono ?_
   rintro e U3 ⟨rfl, hb⟩
   have HK := za0.mk (HK.out.more hb)
   clear hb
   obtain ⟨q0, q1, q2, q3, q4, q5⟩ := box_six HK.out.also
   go_wp2_with fail
   clear q0 q1 q2 q3 q4 q5
   have HRL := za0.mk (Kd.R_reads' (lit_nodes U3 0 (Nat.zero_le _) [xL] 1 rfl (by decide) (by decide) #[.int .i64 1, .int .i64 3, .int .i64 1, .int .i64 2, .int .i64 3, .int .i32 0] rfl)).2.2
   have hb := za2 (Below.refl _ U3) (.cells #[.int .i64 1, .int .i64 3, .int .i64 1, .int .i64 2, .int .i64 3, .int .i32 0] 53 (0, 0) : Obj)
   have HK := za0.mk (HK.out.more hb)
   clear hb
   refine (redpencillaw15_deletes.calls 60 _ 3 [xA, xB, xC] 1 1 _ 1 [xL] 0 true _ HK.out.s (Nat.le_refl _) HRL.out (Nat.le_refl _) kn15_2).mono ?_
   rintro e U4 ⟨rfl, hb⟩
   have HK := za0.mk (HK.out.more hb)
   clear hb
   clear HRL
   go_wp2_with fail
   refine (redpencillaw15_dot.calls 2 1 2 1 _ rfl).mono ?_
   rintro e U5 ⟨rfl, hb⟩
   have HK := za0.mk (HK.out.more hb)
   clear hb
   go_wp2_with fail
   have hb := za2 (Below.refl _ U5) (.cells #[.int .i32 122] 21 (0, 0) : Obj)
   have HRR := za0.mk (zal U5 (.cells #[.int .i32 122] 21 (0, 0) : Obj))
   have HK := za0.mk (HK.out.more hb)
   clear hb
   refine (redpencillaw15_replaces.calls 60 _ 3 [xA, xB, xC] 2 1 0 2 _ 1 [122] _ 3 [xG, xZ, xL] 0 true _ HK.out.s (Nat.le_refl _) (intRow_C [122] _ rfl HRR.out (by decide)) (Nat.le_refl _) HK.out.z (Nat.le_refl _) kn15_3).mono ?_
   rintro e U6 ⟨rfl, hb⟩
   have HK := za0.mk (HK.out.more hb)
   clear hb
   clear HRR
   go_wp2_with fail
   refine (texts_call 60 _ 3 [xA, xB, xC] _ 3 [xG, xZ, xL] ⟨#[122]⟩ _ _ _ HK.out.s (Nat.le_refl _) HK.out.z (Nat.le_refl _) kn15_4 (by kernel_rfl)).mono ?_
   rintro e U7 ⟨rfl, hb⟩
   have HK := za0.mk (HK.out.more hb)
   clear hb
   go_wp2_with fail
   have hb := za2 (Below.refl _ U7) (.cells #[.int .i32 120] 21 (0, 0) : Obj)
   have HRR := za0.mk (zal U7 (.cells #[.int .i32 120] 21 (0, 0) : Obj))
   have HK := za0.mk (HK.out.more hb)
   clear hb
   have HONE := za0.mk HRR.out
   clear HRR
   refine (redpencillaw15_dot.calls 2 1 2 1 _ rfl).mono ?_
   rintro e U8 ⟨rfl, hb⟩
   have HK := za0.mk (HK.out.more hb)
   have HONE := za0.mk (za7 HONE.out hb)
   clear hb
   go_wp2_with fail
   refine (redpencillaw15_inserts.calls 60 _ 3 [xA, xB, xC] 2 1 3 _ 1 [120] _ 0 [] 3 true _ HK.out.s (Nat.le_refl _) (intRow_C [120] _ rfl HONE.out (by decide)) (Nat.le_refl _) nilNs (Nat.le_refl _) kn15_5).mono ?_
   rintro e U9 ⟨rfl, hb⟩
   have HK := za0.mk (HK.out.more hb)
   have HONE := za0.mk (za7 HONE.out hb)
   clear hb
   go_wp2_with fail
   refine (redpencillaw15_dot.calls 1 1 1 1 _ rfl).mono ?_
   rintro e U10 ⟨rfl, hb⟩
   have HK := za0.mk (HK.out.more hb)
   have HONE := za0.mk (za7 HONE.out hb)
   clear hb
   go_wp2_with fail
   refine (redpencillaw15_inserts.calls 60 _ 3 [xA, xB, xC] 1 1 0 _ 1 [120] _ 0 [] 11 true _ HK.out.s (Nat.le_refl _) (intRow_C [120] _ rfl HONE.out (by decide)) (Nat.le_refl _) nilNs (Nat.le_refl _) kn15_6).mono ?_
   rintro e U11 ⟨rfl, hb⟩
   have HK := za0.mk (HK.out.more hb)
   have HONE := za0.mk (za7 HONE.out hb)
   clear hb
   clear HONE
   go_wp2_with fail
   refine (redpencillaw15_dot.calls 2 4294967295 2 4294967295 _ rfl).mono ?_
   rintro e U12 ⟨rfl, hb⟩
   have HK := za0.mk (HK.out.more hb)
   clear hb
   go_wp2_with fail
   have hb := za2 (Below.refl _ U12) (.cells #[.int .i32 120, .int .i32 121] 21 (0, 0) : Obj)
   have HRR := za0.mk (zal U12 (.cells #[.int .i32 120, .int .i32 121] 21 (0, 0) : Obj))
   have HK := za0.mk (HK.out.more hb)
   clear hb
   refine (redpencillaw15_inserts.calls 60 _ 3 [xA, xB, xC] 2 4294967295 0 _ 2 [120, 121] _ 0 [] 14 true _ HK.out.s (Nat.le_refl _) (intRow_C [120, 121] _ rfl HRR.out (by decide)) (Nat.le_refl _) nilNs (Nat.le_refl _) kn15_7).mono ?_
   rintro e U13 ⟨rfl, hb⟩
   have HK := za0.mk (HK.out.more hb)
   clear hb
   clear HRR
   go_wp2_with fail
   refine (redpencillaw15_dot.calls 2 1 2 1 _ rfl).mono ?_
   rintro e U14 ⟨rfl, hb⟩
   have HK := za0.mk (HK.out.more hb)
   clear hb
   go_wp2_with fail
   have hb := za2 (Below.refl _ U14) (.cells #[.int .i32 0] 21 (0, 0) : Obj)
   have HRR := za0.mk (zal U14 (.cells #[.int .i32 0] 21 (0, 0) : Obj))
   have HK := za0.mk (HK.out.more hb)
   clear hb
   refine (redpencillaw15_inserts.calls 60 _ 3 [xA, xB, xC] 2 1 0 _ 1 [0] _ 0 [] 13 true _ HK.out.s (Nat.le_refl _) (intRow_C [0] _ rfl HRR.out (by decide)) (Nat.le_refl _) nilNs (Nat.le_refl _) kn15_8).mono ?_
   rintro e U15 ⟨rfl, hb⟩
   have HK := za0.mk (HK.out.more hb)
   clear hb
   clear HRR
   go_wp2_with fail
   refine (redpencillaw15_deletes.calls 60 _ 3 [xA, xB, xC] 0 3 _ 0 [] 3 true _ HK.out.s (Nat.le_refl _) nilNs (Nat.le_refl _) kn15_9).mono ?_
   rintro e U16 ⟨rfl, hb⟩
   have HK := za0.mk (HK.out.more hb)
   clear hb
   go_wp2_with fail
   refine (edit_Latest.calls 60 _ 3 [xA, xB, xC] 3 _ HK.out.s (Nat.le_refl _) kn15_10).mono ?_
   rintro e U17 ⟨rfl, hb⟩
   have HK := za0.mk (HK.out.more hb)
   clear hb
   go_wp2
   go_ret
   exact ⟨rfl, HK.out.below⟩
end
section
abbrev actO (x y : Int) (A : Option Addr) (m c : Nat) : Obj := .cells #[.int .u8 x, .int .u8 y, .slice A m c] 59 (0, 0)
theorem act_cells {W : World} {g : Nat} {x y : Int} {A : Option Addr} {m c : Nat} (h : W.heap[g]? = some (actO x y A m c)) : W.cell? ⟨g, 0, none⟩ = some (.int .u8 x) ∧ W.cell? ⟨g, 1, none⟩ = some (.int .u8 y) ∧ W.cell? ⟨g, 2, none⟩ = some (.slice A m c) :=
 ⟨(za4 h 0).trans rfl, (za4 h 1).trans rfl, (za4 h 2).trans rfl⟩
theorem results_tmp4 {fn : Func} {t u v x : Tmp} (h : fn.results = #[.tmp t, .tmp u, .tmp v, .tmp x]) (tmps : Array Value) (P : Program) (w : World) :
  (results fn tmps).run P w = .ok (.tuple #[tmps.getD t undef, tmps.getD u undef, tmps.getD v undef, tmps.getD x undef]) w := by
 simp [results, h]
/-- What has come up where the delta is made. -/
structure EDD (W0 : World) (X : List Node) (p0 p1 p2 p3 : Bool) (va : Value) (V : World) : Prop where
 o1 : p1 = true → p0 = true
 o2 : p2 = true → p1 = true
 o3 : p3 = true → p2 = true
 below : Below W0.heap.size W0 V
 r : p0 = true → RN V W0.heap.size va X
def ed8Inv (W0 : World) (A0 A4 : Option Addr) (n c0 m c4 at_ nn ga : Nat) (d : Dot) (δ : List Node) (z3 z4 z5 z6 z8 z9 z10 z11 z12 z15 z16 z17 z18 z19 z20 z21 z22 z23 z24 z25 z26 z27 z28 z29 z30 z31 z32 z33 z34 z35 z36 z37 z38 z39 z40 z41 z42 z43 z44 z45 z46 z47 z48 z49 z50 z51 z52 z53 z54 z55 z56 z57 z58 z59 z60 z61 z62 z63 z64 z65 z66 z67 z68 z69 z70 z71 z72 z73 z74 z75 z76 z77 z78 z79 z80 z81 z82 z83 z84 z85 z86 z87 z88 z89 z90 z91 z92 z93 z94 z95 z96 z97 z98 z99 z100 z101 z102 z103 z104 z105 z106 z107 z108 z109 z110 z111 z112 z113 z114 z115 z116 z117 z118 z119 z120 z121 z122 z123 z124 z125 z126 z127 z128 z129 z130 z131 z132 : Value) (L : Array Bool) (ac : Act) (V : World) : Prop := ∃ (l0 l1 l2 l3 l4 l5 l6 l7 l8 l9 l10 l11 l12 : Bool) (va : Value), L = #[l0, l1, l2, l3, l4, l5, l6, l7, l8, l9, l10, l11, l12] ∧ ac = { tmps := #[.slice A0 n c0, .int .i64 d.f0, .int .i64 d.f1, z3, z4, z5, z6, .pointer (some ⟨ga, 0, none⟩), z8, z9, z10, z11, z12, .int .i64 (at_ : Int), .int .i64 (nn : Int), selv l11 (va) (z15), selv l12 (.int .i64 0) (z16), z17, z18, z19, z20, z21, z22, z23, z24, z25, z26, z27, z28, z29, z30, z31, z32, z33, z34, z35, z36, z37, z38, z39, z40, z41, z42, z43, z44, z45, z46, z47, z48, z49, z50, z51, z52, selv l8 (.tuple #[va, .int .i64 0]) (z53), selv l0 (.slice A0 n c0) (z54), selv l1 (.int .i64 d.f0) (z55), selv l2 (.int .i64 d.f1) (z56), selv l3 (.agg #[.int .i64 d.f0, .int .i64 d.f1]) (z57), selv l4 (.int .i64 (at_ : Int)) (z58), selv l5 (.pointer (some ⟨ga, 2, none⟩)) (z59), selv l6 (.slice A4 m c4) (z60), selv l7 (.tuple #[va, .int .i64 0]) (z61), selv l9 (va) (z62), selv l10 (.int .i64 0) (z63), z64, z65, z66, z67, z68, z69, z70, z71, z72, z73, z74, z75, z76, z77, z78, z79, z80, z81, z82, z83, z84, z85, z86, z87, z88, z89, z90, z91, z92, z93, z94, z95, z96, z97, z98, z99, z100, z101, z102, z103, z104, z105, z106, z107, z108, z109, z110, z111, z112, z113, z114, z115, z116, z117, z118, z119, z120, z121, z122, z123, z124, z125, z126, z127, z128, z129, z130, z131, z132], defers := [] } ∧ za0 (EDD W0 δ l7 l8 l9 l11 va V)
def ed6Inv (W0 : World) (A0 A4 : Option Addr) (n c0 m c4 at_ nn ga : Nat) (d : Dot) (δ : List Node) (z3 z4 z5 z6 z8 z9 z10 z11 z12 z15 z16 z17 z18 z19 z20 z21 z22 z23 z24 z25 z26 z27 z28 z29 z30 z31 z32 z33 z34 z35 z36 z37 z38 z39 z40 z41 z42 z43 z44 z45 z46 z47 z48 z49 z50 z51 z52 z53 z54 z55 z56 z57 z58 z59 z60 z61 z62 z63 z64 z65 z66 z67 z68 z69 z70 z71 z72 z73 z74 z75 z76 z77 z78 z79 z80 z81 z82 z83 z84 z85 z86 z87 z88 z89 z90 z91 z92 z93 z94 z95 z96 z97 z98 z99 z100 z101 z102 z103 z104 z105 z106 z107 z108 z109 z110 z111 z112 z113 z114 z115 z116 z117 z118 z119 z120 z121 z122 z123 z124 z125 z126 z127 z128 z129 z130 z131 z132 : Value) (L : Array Bool) (ac : Act) (V : World) : Prop := ∃ (l0 l1 l2 l3 l4 l5 l6 l7 l8 l9 l10 l11 l12 l13 : Bool) (va : Value), L = #[l0, l1, l2, l3, l4, l5, l6, l7, l8, l9, l10, l11, l12, l13] ∧ ac = { tmps := #[.slice A0 n c0, .int .i64 d.f0, .int .i64 d.f1, z3, z4, z5, z6, .pointer (some ⟨ga, 0, none⟩), z8, z9, z10, z11, z12, .int .i64 (at_ : Int), .int .i64 (nn : Int), selv l12 (va) (z15), selv l13 (.int .i64 0) (z16), z17, z18, z19, z20, z21, z22, z23, z24, z25, z26, z27, z28, z29, z30, z31, z32, z33, z34, z35, z36, z37, selv l9 (.tuple #[va, .int .i64 0]) (z38), selv l0 (.slice A0 n c0) (z39), selv l1 (.int .i64 d.f0) (z40), selv l2 (.int .i64 d.f1) (z41), selv l3 (.agg #[.int .i64 d.f0, .int .i64 d.f1]) (z42), selv l4 (.int .i64 (at_ : Int)) (z43), selv l5 (.int .i64 (nn : Int)) (z44), selv l6 (.pointer (some ⟨ga, 2, none⟩)) (z45), selv l7 (.slice A4 m c4) (z46), selv l8 (.tuple #[va, .int .i64 0]) (z47), selv l10 (va) (z48), selv l11 (.int .i64 0) (z49), z50, z51, z52, z53, z54, z55, z56, z57, z58, z59, z60, z61, z62, z63, z64, z65, z66, z67, z68, z69, z70, z71, z72, z73, z74, z75, z76, z77, z78, z79, z80, z81, z82, z83, z84, z85, z86, z87, z88, z89, z90, z91, z92, z93, z94, z95, z96, z97, z98, z99, z100, z101, z102, z103, z104, z105, z106, z107, z108, z109, z110, z111, z112, z113, z114, z115, z116, z117, z118, z119, z120, z121, z122, z123, z124, z125, z126, z127, z128, z129, z130, z131, z132], defers := [] } ∧ za0 (EDD W0 δ l8 l9 l10 l12 va V)
def ed17Inv (W0 : World) (A4 Ax Aw : Option Addr) (m c4 ga Nx cx Nw cw : Nat) (d : Dot) (z0 z1 z3 z4 z5 z6 z8 z9 z10 z11 z12 z13 z14 z15 z16 z18 z20 z21 z22 z23 z24 z25 z26 z27 z28 z29 z30 z31 z32 z33 z34 z35 z36 z37 z38 z39 z40 z41 z42 z43 z44 z45 z46 z47 z48 z49 z50 z51 z52 z53 z54 z55 z56 z57 z58 z59 z60 z61 z62 z63 z64 z65 z66 z67 z68 z69 z70 z71 z72 z73 z74 z75 z76 z77 z78 z79 z80 z81 z82 z83 z84 z85 z86 z87 z88 z89 z90 z91 z92 z93 z94 z95 z96 z97 z98 z99 z100 z101 z102 z103 z104 z105 z106 z107 z108 z109 z110 z111 z112 z113 z114 z115 z116 z117 z118 z119 z120 z121 z122 z123 z124 z125 z126 z127 z128 z129 z130 z131 z132 : Value) (L : Array Bool) (ac : Act) (V : World) : Prop := ∃ (l0 l1 l2 l3 l4 l5 l6 l7 l8 l9 l10 : Bool), L = #[l0, l1, l2, l3, l4, l5, l6, l7, l8, l9, l10] ∧ ac = { tmps := #[z0, z1, .int .i64 d.f1, z3, z4, z5, z6, .pointer (some ⟨ga, 0, none⟩), selv l7 (.slice Ax Nx cx) (z8), selv l8 (.slice Aw Nw cw) (z9), selv l9 (.int .i64 (d.f1 + (m : Int))) (z10), selv l10 (.bool true) (z11), z12, z13, z14, z15, z16, .slice Ax Nx cx, z18, .slice Aw Nw cw, z20, z21, z22, z23, z24, z25, z26, z27, z28, z29, z30, z31, z32, z33, z34, z35, z36, z37, z38, z39, z40, z41, z42, z43, z44, z45, z46, z47, z48, z49, z50, z51, z52, z53, z54, z55, z56, z57, z58, z59, z60, z61, z62, z63, z64, z65, z66, z67, z68, z69, z70, z71, z72, z73, z74, z75, z76, z77, z78, z79, z80, z81, z82, z83, z84, z85, z86, z87, z88, z89, z90, z91, z92, z93, z94, z95, z96, z97, z98, z99, z100, z101, z102, z103, z104, z105, z106, z107, z108, z109, z110, z111, z112, z113, z114, z115, z116, z117, z118, z119, z120, z121, z122, z123, z124, z125, selv l0 (.slice Ax Nx cx) (z126), selv l1 (.slice Aw Nw cw) (z127), selv l2 (.int .i64 d.f1) (z128), selv l3 (.pointer (some ⟨ga, 2, none⟩)) (z129), selv l4 (.slice A4 m c4) (z130), selv l5 (.int .i64 (m : Int)) (z131), selv l6 (.int .i64 (d.f1 + (m : Int))) (z132)], defers := [] } ∧ za0 (Below W0.heap.size W0 V)
set_option maxHeartbeats 8000000 in
set_option maxRecDepth 100000 in
theorem edits_call (A0 : Option Addr) (c0 : Nat) (l : List Node) (d : Dot) (x y : Int) (A4 : Option Addr) (c4 : Nat) (rs : List Int) (at_ nn : Nat) (w : World) (hr0 : Kd.C k53 w A0 l.length l) (hc0 : l.length ≤ c0) (hr4 : Kd.C (Kd.int .i32) w A4 rs.length rs) (hc4 : rs.length ≤ c4)
  (hx : 0 ≤ x ∧ x ≤ 255) (hy : 0 ≤ y ∧ y ≤ 255) (hl : l.length ≤ 1000) (hrs : rs.length ≤ 5) (hat : x % (((runesOf l).length : Int) + 1) = (at_ : Int)) (hnn : y % (((runesOf l).length : Int) - (at_ : Int) + 1) = (nn : Int)) (H : EdOk l d at_ nn rs) :
  Calls Tryz.prog 34 #[.slice A0 l.length c0, .int .i64 d.f0, .int .i64 d.f1, .agg #[.int .u8 x, .int .u8 y, .slice A4 rs.length c4]] w fun e w' => ∃ v0_ v1_ : Value, e = .returned (.tuple #[v0_, v1_, .int .i64 (d.f1 + (rs.length : Int)), .bool true]) ∧ RN w' w.heap.size v0_ (joinJ l (deltaE l d at_ nn rs)) ∧ RI w' w.heap.size v1_ (runesOf (joinJ l (deltaE l d at_ nn rs))) ∧ Below w.heap.size w w' := by
 have HH := za0.mk H
 obtain ⟨n, Hn⟩ : ∃ n, za0 (l.length = n) := ⟨_, ⟨rfl⟩⟩
 obtain ⟨m, Hm⟩ : ∃ n, za0 (rs.length = n) := ⟨_, ⟨rfl⟩⟩
 obtain ⟨old, Hold⟩ : ∃ o, za0 (runesOf l = o) := ⟨_, ⟨rfl⟩⟩
 obtain ⟨nv, Hnv⟩ : ∃ k, za0 (old.length = k) := ⟨_, ⟨rfl⟩⟩
 rw [Hold.out, Hnv.out] at hat hnn
 have HAT := za0.mk hat
 have HNN := za0.mk hnn
 have HVL : za0 ((visOf l).length = nv) := ⟨by rw [← Hnv.out, ← Hold.out]; unfold runesOf; rw [List.length_map]⟩
 have HL : za0 (n ≤ 1000 ∧ m ≤ 5) := ⟨by rw [← Hn.out, ← Hm.out]; exact ⟨hl, hrs⟩⟩
 have HSP : za0 (at_ + nn ≤ nv ∧ nv ≤ 1000) := ⟨by
  have h1 := H.span
  have h2 := vis_len H.store
  have h3 := HVL.out
  omega⟩
 obtain ⟨δ, Hδ⟩ : ∃ D, za0 (deltaE l d at_ nn rs = D) := ⟨_, ⟨rfl⟩⟩
 obtain ⟨nx, Hnx⟩ : ∃ D, za0 (joinJ l δ = D) := ⟨_, ⟨rfl⟩⟩
 have HTX : za0 (runesOf nx = old.take at_ ++ rs ++ old.drop (at_ + nn)) := ⟨by rw [← Hnx.out, ← Hδ.out, H.text, Hold.out]⟩
 have HDL : za0 (δ.length ≤ 1005) := ⟨by have := H.delta_le; rw [Hδ.out] at this; omega⟩
 have HXL : za0 (nx.length ≤ 1005) := ⟨by have := H.after_le; rw [Hδ.out, Hnx.out] at this; omega⟩
 have HXS : za0 (zak nx = true) := ⟨by have := H.after_ok; rwa [Hδ.out, Hnx.out] at this⟩
 have HXW : za0 (wellB nx = true) := ⟨by have := H.after_well; rwa [Hδ.out, Hnx.out] at this⟩
 have HAP : za0 (applyR l δ = (nx, runesOf nx, 0)) := ⟨by have := H.apply; rwa [Hδ.out, Hnx.out] at this⟩
 obtain ⟨want, Hw⟩ : ∃ D, za0 (runesOf nx = D) := ⟨_, ⟨rfl⟩⟩
 rw [Hw.out] at HTX
 have HWL : za0 (want.length ≤ 1005) := ⟨by rw [← Hw.out]; have := runesOf_len HXS.out; have := HXL.out; omega⟩
 have HCN : za0 (1 ≤ d.f1 ∧ d.f1 + (m : Int) ≤ 4294967296) := ⟨by
  have h1 := H.cnt
  have h2 := (of_decide_eq_true H.dot).2.2.1
  rw [Hm.out] at h1
  exact ⟨h2, h1⟩⟩
 rw [Hδ.out, Hnx.out, Hw.out]
 have HACT := za0.mk (zal w (actO x y A4 m c4))
 have HB0 := za0.mk (za2 (Below.refl _ w) (actO x y A4 m c4))
 have HR := za0.mk hr0
 have HC := za0.mk hc0
 have HR4 := za0.mk hr4
 have HC4 := za0.mk hc4
 obtain ⟨ga, Hga⟩ : ∃ g, za0 (w.heap.size = g) := ⟨_, ⟨rfl⟩⟩
 have hru := redpencilref14_Runes.calls 2000 A0 c0 l old (w.alloc (actO x y A4 m c4)) (Kd.C_below hr0 HB0.out) hc0 (by rw [jrunes_is (by omega) H.store (by omega), Hold.out])
 rw [Hn.out] at hru
 rw [Hn.out, Hm.out]
 have HRU := za0.mk hru
 clear hr0 hc0 hr4 hc4 hl hrs hat hnn hru
 go_enter Tryz.func34, Tryz.ntmps34
 go_wp2_with fail
 refine HRU.out.mono ?_
 rintro e V1 ⟨vo, rfl, hro, hb⟩
 obtain ⟨Ao, co, rfl⟩ := Kd.R_slice hro
 rw [Hnv.out] at hro ⊢
 have HO : za0 (nv ≤ co ∧ Kd.C (Kd.int .i32) V1 Ao nv old) := ⟨(RI.C hro).2⟩
 have HACT := za0.mk (za7 HACT.out hb)
 have HB := za0.mk (za5 HB0.out hb)
 rw [Hga.out] at HACT
 clear hb hro HRU HB0
 have HRN : za0 (Kd.C k53 V1 A0 n l) := ⟨by have := Kd.C_below HR.out HB.out; rwa [Hn.out] at this⟩
 have HR4N : za0 (Kd.C (Kd.int .i32) V1 A4 m rs) := ⟨by have := Kd.C_below HR4.out HB.out; rwa [Hm.out] at this⟩
 have HCN0 : za0 (n ≤ c0) := ⟨by rw [← Hn.out]; exact HC.out⟩
 have HC4N : za0 (m ≤ c4) := ⟨by rw [← Hm.out]; exact HC4.out⟩
 clear HR HC HR4 HC4
 obtain ⟨k0, k1, k2⟩ := act_cells HACT.out
 have hsp := HSP.out
 rw [Hga.out]
 go_upto_region 3 with (fail)
 rw [HAT.out]
 go_upto_region 4 with (fail)
 rw [HNN.out]
 clear k0 k1 k2 hsp hx hy
 have HINS : za0 (nn = 0 → ∀ W, Below V1.heap.size V1 W → Calls Tryz.prog 14 #[.slice A0 n c0, .agg #[.int .i64 d.f0, .int .i64 d.f1], .int .i64 (at_ : Int), .slice A4 m c4] W fun e w' => ∃ v0_ : Value, e = .returned (.tuple #[v0_, .int .i64 0]) ∧ RN w' W.heap.size v0_ δ ∧ Below W.heap.size W w') := ⟨fun h0 W hb => by
  have h1 := HL.out
  have h2 := HH.out.repl (by have := HSP.out; omega) (by rw [Hm.out]; omega)
  rw [Hδ.out, h0] at h2
  have h3 := edit_Insert.calls A0 c0 l d.f0 d.f1 (at_ : Int) A4 c4 rs δ 0 W (by rw [Hn.out]; exact Kd.C_below HRN.out hb) (by rw [Hn.out]; exact HCN0.out) (by rw [Hm.out]; exact Kd.C_below HR4N.out hb) (by rw [Hm.out]; exact HC4N.out) (by
   unfold edit_Insert.f edit_Replace.f
   rw [if_pos (by rw [Hn.out, Hm.out]; omega), Option.bind_some]
   exact congrArg some h2)
  rwa [Hn.out, Hm.out] at h3⟩
 have HREP : za0 (∀ W, Below V1.heap.size V1 W → Calls Tryz.prog 22 #[.slice A0 n c0, .agg #[.int .i64 d.f0, .int .i64 d.f1], .int .i64 (at_ : Int), .int .i64 (nn : Int), .slice A4 m c4] W fun e w' => ∃ v0_ : Value, e = .returned (.tuple #[v0_, .int .i64 0]) ∧ RN w' W.heap.size v0_ δ ∧ Below W.heap.size W w') := ⟨fun W hb => by
  have h1 := HL.out
  have h2 := HH.out.repl (by have := HSP.out; omega) (by rw [Hm.out]; omega)
  rw [Hδ.out] at h2
  have h3 := edit_Replace.calls A0 c0 l d.f0 d.f1 (at_ : Int) (nn : Int) A4 c4 rs δ 0 W (by rw [Hn.out]; exact Kd.C_below HRN.out hb) (by rw [Hn.out]; exact HCN0.out) (by rw [Hm.out]; exact Kd.C_below HR4N.out hb) (by rw [Hm.out]; exact HC4N.out) (by
   unfold edit_Replace.f
   rw [if_pos (by rw [Hn.out, Hm.out]; omega)]
   exact congrArg some h2)
  rwa [Hn.out, Hm.out] at h3⟩
 have HDEL : za0 (m = 0 → ∀ W, Below V1.heap.size V1 W → Calls Tryz.prog 19 #[.slice A0 n c0, .int .i64 (at_ : Int), .int .i64 (nn : Int)] W fun e w' => ∃ v0_ : Value, e = .returned (.tuple #[v0_, .int .i64 0]) ∧ RN w' W.heap.size v0_ δ ∧ Below W.heap.size W w') := ⟨fun h0 W hb => by
  have h1 := HL.out
  have h2 := HH.out.del (by have := HSP.out; omega) (List.eq_nil_of_length_eq_zero (by rw [Hm.out]; exact h0))
  rw [Hδ.out] at h2
  have h3 := edit_Delete.calls A0 c0 l (at_ : Int) (nn : Int) δ 0 W (by rw [Hn.out]; exact Kd.C_below HRN.out hb) (by rw [Hn.out]; exact HCN0.out) (by
   unfold edit_Delete.f
   rw [if_pos (by rw [Hn.out]; omega)]
   exact congrArg some h2)
  rwa [Hn.out] at h3⟩
 have HNIL : za0 (nn = 0 → m = 0 → δ.length = 0) := ⟨fun h1 h2 => by
  have h3 := Hm.out
  rw [h2] at h3
  rw [← Hδ.out, h1, List.eq_nil_of_length_eq_zero h3, delta_nil]
  rfl⟩
 obtain ⟨nd, Hnd⟩ : ∃ k, za0 (δ.length = k) := ⟨_, ⟨rfl⟩⟩
 rw [Hnd.out] at HNIL
 go_upto_block 0 with (fail)
 go_cut [15, 16] from 20 (fun s15 s16 wc => ∃ (Ad : Option Addr) (cd : Nat), s15 = .slice Ad nd cd ∧ s16 = .int .i64 0 ∧ za0 (RN wc V1.heap.size (.slice Ad nd cd) δ) ∧ za0 (Below V1.heap.size V1 wc))
 case first =>
  rcases Nat.eq_zero_or_pos nn with hz | hz
  ·
   have HZ := za0.mk hz
   have q1 : decide (nn = 0) = true := decide_eq_true hz
   have q2 : ((nn : Int) == 0) = true := beq_iff_eq.2 (by omega)
   clear hz
   go_upto_region 8 with (fail)
   clear q1 q2
   refine AnyOrder.wp_region (by kernel_rfl) (ed8Inv V1.drew A0 A4 n c0 m c4 at_ nn ga d δ _ _ _ _ _ _ _ _ _ _ _ _ _ _ _ _ _ _ _ _ _ _ _ _ _ _ _ _ _ _ _ _ _ _ _ _ _ _ _ _ _ _ _ _ _ _ _ _ _ _ _ _ _ _ _ _ _ _ _ _ _ _ _ _ _ _ _ _ _ _ _ _ _ _ _ _ _ _ _ _ _ _ _ _ _ _ _ _ _ _ _ _ _ _ _ _ _ _ _ _ _ _ _ _ _ _ _ _ _ _ _ _ _ _ _ _ _ _ _ _ _ _ _ _ _ _ _) ⟨false, false, false, false, false, false, false, false, false, false, false, false, false, undef, rfl, rfl, ⟨⟨fun h => (by cases h), fun h => (by cases h), fun h => (by cases h), Below.refl _ _, fun h => (by cases h)⟩⟩⟩ ?_ ?_
   ·
    rintro L ac V i ⟨l0, l1, l2, l3, l4, l5, l6, l7, l8, l9, l10, l11, l12, va, rfl, rfl, HF⟩ hi K hK
    rcases AnyOrder.up hi [0, 1, 2, 4, 5, 10, 12, 3, 6, 7, 8, 9, 11] rfl with rfl | rfl | rfl | rfl | rfl | rfl | rfl | rfl | rfl | rfl | rfl | rfl | rfl
    all_goals
     replace hi := AnyOrder.first hi rfl
     repeat (obtain ⟨ha, hi⟩ := hi; first | obtain rfl := ha | clear ha)
     clear hi
     try simp only [sel_true, selv_true] at hK ⊢
    iterate 7
     ·
      refine AnyOrder.wpOp_go rfl (by rfl) ?_
      go_wp2_with fail
      exact ⟨_, _, _, _, _, _, _, _, _, _, _, _, _, va, rfl, rfl, HF⟩
    ·
     refine AnyOrder.wpOp_go rfl (by rfl) ?_
     go_wp2_with fail
     refine (redpencillaw15_dot.calls d.f0 d.f1 d.f0 d.f1 V rfl).mono ?_
     rintro e V' ⟨rfl, hb⟩
     exact hK _ _ ⟨_, _, _, _, _, _, _, _, _, _, _, _, _, va, rfl, rfl, ⟨⟨HF.out.o1, HF.out.o2, HF.out.o3, za5 HF.out.below hb, fun h => RN.below' (HF.out.r h) hb⟩⟩⟩
    ·
     obtain ⟨k0, k1, k2⟩ := act_cells (za7 HACT.out (za5 (za3 (Below.refl _ V1)) HF.out.below))
     refine AnyOrder.wpOp_go rfl (by rfl) ?_
     go_wp2_with fail
     exact ⟨_, _, _, _, _, _, _, _, _, _, _, _, _, va, rfl, rfl, HF⟩
    ·
     obtain rfl : l8 = false := by cases l8 with | false => rfl | true => cases HF.out.o1 rfl
     obtain rfl : l9 = false := by cases l9 with | false => rfl | true => cases HF.out.o2 rfl
     obtain rfl : l11 = false := by cases l11 with | false => rfl | true => cases HF.out.o3 rfl
     (try simp only [selv_false] at hK ⊢)
     refine AnyOrder.wpOp_go rfl (by rfl) ?_
     go_wp2_with fail
     refine (HINS.out HZ.out V (za5 (za3 (Below.refl _ V1)) HF.out.below)).mono ?_
     rintro e V' ⟨v', rfl, hr, hb⟩
     exact hK _ _ ⟨_, _, _, _, _, _, _, _, _, _, _, _, _, v', rfl, rfl, ⟨⟨fun h => (by cases h), fun h => (by cases h), fun h => (by cases h), za5 HF.out.below hb, fun _ => Kd.R_lower hr HF.out.below.size⟩⟩⟩
    ·
     refine AnyOrder.wpOp_go rfl (by rfl) ?_
     go_wp2_with fail
     exact ⟨_, _, _, _, _, _, _, _, _, _, _, _, _, va, rfl, rfl, ⟨⟨fun _ => rfl, fun _ => rfl, HF.out.o3, HF.out.below, HF.out.r⟩⟩⟩
    ·
     refine AnyOrder.wpOp_go rfl (by rfl) ?_
     go_wp2_with fail
     exact ⟨_, _, _, _, _, _, _, _, _, _, _, _, _, va, rfl, rfl, ⟨⟨HF.out.o1, fun _ => rfl, fun _ => rfl, HF.out.below, HF.out.r⟩⟩⟩
    ·
     refine AnyOrder.wpOp_go rfl (by rfl) ?_
     go_wp2_with fail
     exact ⟨_, _, _, _, _, _, _, _, _, _, _, _, _, va, rfl, rfl, ⟨⟨HF.out.o1, HF.out.o2, fun _ => rfl, HF.out.below, HF.out.r⟩⟩⟩
   ·
    rintro L ac V ⟨l0, l1, l2, l3, l4, l5, l6, l7, l8, l9, l10, l11, l12, va, rfl, rfl, HF⟩ hr
    obtain ⟨rfl, rfl, rfl, rfl, rfl, rfl, rfl, rfl, rfl, rfl, rfl, rfl, rfl, -⟩ := AnyOrder.alls rfl (by kernel_rfl) hr
    clear hr
    simp only [sel_true, selv_true]
    have HVB := za0.mk (za5 (za3 (Below.refl _ V1)) HF.out.below)
    have HD := za0.mk (Kd.R_lower (HF.out.r rfl) (za3 (Below.refl V1.heap.size V1)).size)
    clear HF
    obtain ⟨Ad, cd, rfl⟩ := RN.slice HD.out
    rw [Hnd.out] at HD ⊢
    go_wp2_with fail
    go_meet
    case rel => exact ⟨Ad, cd, rfl, rfl, HD, HVB⟩
  ·
   have HZ := za0.mk hz
   have q1 : decide (nn = 0) = false := decide_eq_false (by omega)
   have q2 : ((nn : Int) == 0) = false := beq_eq_false_iff_ne.2 (by omega)
   clear hz
   obtain ⟨k0, k1, k2⟩ := act_cells HACT.out
   rcases Nat.eq_zero_or_pos m with hm0 | hm0
   ·
    have q3 : decide (m = 0) = true := decide_eq_true hm0
    have q4 : ((m : Int) == 0) = true := beq_iff_eq.2 (by omega)
    have HM0 := za0.mk hm0
    clear hm0
    go_upto_region 10 with (fail)
    clear k0 k1 k2 q1 q2 q3 q4
    go_wp2_with fail
    refine (HDEL.out HM0.out _ (Below.refl _ V1)).mono ?_
    rintro e V8 ⟨vd, rfl, HD, hb⟩
    obtain ⟨Ad, cd, rfl⟩ := RN.slice HD
    rw [Hnd.out] at HD ⊢
    have HVB := za0.mk hb
    have HD := za0.mk HD
    clear hb
    go_wp2_with fail
    go_meet
    case rel => exact ⟨Ad, cd, rfl, rfl, HD, HVB⟩
   ·
    have q3 : decide (m = 0) = false := decide_eq_false (by omega)
    have q4 : ((m : Int) == 0) = false := beq_eq_false_iff_ne.2 (by omega)
    go_upto_region 6 with (fail)
    clear k0 k1 k2 q1 q2 q3 q4
    refine AnyOrder.wp_region (by kernel_rfl) (ed6Inv V1.drew A0 A4 n c0 m c4 at_ nn ga d δ _ _ _ _ _ _ _ _ _ _ _ _ _ _ _ _ _ _ _ _ _ _ _ _ _ _ _ _ _ _ _ _ _ _ _ _ _ _ _ _ _ _ _ _ _ _ _ _ _ _ _ _ _ _ _ _ _ _ _ _ _ _ _ _ _ _ _ _ _ _ _ _ _ _ _ _ _ _ _ _ _ _ _ _ _ _ _ _ _ _ _ _ _ _ _ _ _ _ _ _ _ _ _ _ _ _ _ _ _ _ _ _ _ _ _ _ _ _ _ _ _ _ _ _ _ _ _) ⟨false, false, false, false, false, false, false, false, false, false, false, false, false, false, undef, rfl, rfl, ⟨⟨fun h => (by cases h), fun h => (by cases h), fun h => (by cases h), Below.refl _ _, fun h => (by cases h)⟩⟩⟩ ?_ ?_
    ·
     rintro L ac V i ⟨l0, l1, l2, l3, l4, l5, l6, l7, l8, l9, l10, l11, l12, l13, va, rfl, rfl, HF⟩ hi K hK
     rcases AnyOrder.up hi [0, 1, 2, 4, 5, 6, 11, 13, 3, 7, 8, 9, 10, 12] rfl with rfl | rfl | rfl | rfl | rfl | rfl | rfl | rfl | rfl | rfl | rfl | rfl | rfl | rfl
     all_goals
      replace hi := AnyOrder.first hi rfl
      repeat (obtain ⟨ha, hi⟩ := hi; first | obtain rfl := ha | clear ha)
      clear hi
      try simp only [sel_true, selv_true] at hK ⊢
     iterate 8
      ·
       refine AnyOrder.wpOp_go rfl (by rfl) ?_
       go_wp2_with fail
       exact ⟨_, _, _, _, _, _, _, _, _, _, _, _, _, _, va, rfl, rfl, HF⟩
     ·
      refine AnyOrder.wpOp_go rfl (by rfl) ?_
      go_wp2_with fail
      refine (redpencillaw15_dot.calls d.f0 d.f1 d.f0 d.f1 V rfl).mono ?_
      rintro e V' ⟨rfl, hb⟩
      exact hK _ _ ⟨_, _, _, _, _, _, _, _, _, _, _, _, _, _, va, rfl, rfl, ⟨⟨HF.out.o1, HF.out.o2, HF.out.o3, za5 HF.out.below hb, fun h => RN.below' (HF.out.r h) hb⟩⟩⟩
     ·
      obtain ⟨k0, k1, k2⟩ := act_cells (za7 HACT.out (za5 (za3 (Below.refl _ V1)) HF.out.below))
      refine AnyOrder.wpOp_go rfl (by rfl) ?_
      go_wp2_with fail
      exact ⟨_, _, _, _, _, _, _, _, _, _, _, _, _, _, va, rfl, rfl, HF⟩
     ·
      obtain rfl : l9 = false := by cases l9 with | false => rfl | true => cases HF.out.o1 rfl
      obtain rfl : l10 = false := by cases l10 with | false => rfl | true => cases HF.out.o2 rfl
      obtain rfl : l12 = false := by cases l12 with | false => rfl | true => cases HF.out.o3 rfl
      (try simp only [selv_false] at hK ⊢)
      refine AnyOrder.wpOp_go rfl (by rfl) ?_
      go_wp2_with fail
      refine (HREP.out V (za5 (za3 (Below.refl _ V1)) HF.out.below)).mono ?_
      rintro e V' ⟨v', rfl, hr, hb⟩
      exact hK _ _ ⟨_, _, _, _, _, _, _, _, _, _, _, _, _, _, v', rfl, rfl, ⟨⟨fun h => (by cases h), fun h => (by cases h), fun h => (by cases h), za5 HF.out.below hb, fun _ => Kd.R_lower hr HF.out.below.size⟩⟩⟩
     ·
      refine AnyOrder.wpOp_go rfl (by rfl) ?_
      go_wp2_with fail
      exact ⟨_, _, _, _, _, _, _, _, _, _, _, _, _, _, va, rfl, rfl, ⟨⟨fun _ => rfl, fun _ => rfl, HF.out.o3, HF.out.below, HF.out.r⟩⟩⟩
     ·
      refine AnyOrder.wpOp_go rfl (by rfl) ?_
      go_wp2_with fail
      exact ⟨_, _, _, _, _, _, _, _, _, _, _, _, _, _, va, rfl, rfl, ⟨⟨HF.out.o1, fun _ => rfl, fun _ => rfl, HF.out.below, HF.out.r⟩⟩⟩
     ·
      refine AnyOrder.wpOp_go rfl (by rfl) ?_
      go_wp2_with fail
      exact ⟨_, _, _, _, _, _, _, _, _, _, _, _, _, _, va, rfl, rfl, ⟨⟨HF.out.o1, HF.out.o2, fun _ => rfl, HF.out.below, HF.out.r⟩⟩⟩
    ·
     rintro L ac V ⟨l0, l1, l2, l3, l4, l5, l6, l7, l8, l9, l10, l11, l12, l13, va, rfl, rfl, HF⟩ hr
     obtain ⟨rfl, rfl, rfl, rfl, rfl, rfl, rfl, rfl, rfl, rfl, rfl, rfl, rfl, rfl, -⟩ := AnyOrder.alls rfl (by kernel_rfl) hr
     clear hr
     simp only [sel_true, selv_true]
     have HVB := za0.mk (za5 (za3 (Below.refl _ V1)) HF.out.below)
     have HD := za0.mk (Kd.R_lower (HF.out.r rfl) (za3 (Below.refl V1.heap.size V1)).size)
     clear HF
     obtain ⟨Ad, cd, rfl⟩ := RN.slice HD.out
     rw [Hnd.out] at HD ⊢
     go_wp2_with fail
     go_meet
     case rel => exact ⟨Ad, cd, rfl, rfl, HD, HVB⟩
 case rest =>
  obtain ⟨Ad, cd, rfl, rfl, HD, HVB⟩ := hcut
  obtain ⟨V8, rfl⟩ : ∃ W0, W0 = wc := ⟨_, rfl⟩
  go_upto_region 11 with (fail)
  go_cut [92] from 20 (fun s92 wc => s92 = .bool false ∧ V8 = wc)
  case first =>
   obtain ⟨k0, k1, k2⟩ := act_cells (za7 HACT.out HVB.out)
   rcases Nat.eq_zero_or_pos nn with hz | hz
   ·
    have q1 : ((nn : Int) == 0) = true := beq_iff_eq.2 (by omega)
    rcases Nat.eq_zero_or_pos m with hm0 | hm0
    ·
     have q2 : ((m : Int) == 0) = true := beq_iff_eq.2 (by omega)
     have q4 : nd = 0 := HNIL.out hz hm0
     have q3 : ((nd : Int) != 0) = false := by rw [q4]; rfl
     clear q4
     clear hz hm0
     go_wp2_with fail
     go_meet
     case rel => exact ⟨rfl, rfl⟩
    ·
     have q2 : ((m : Int) == 0) = false := beq_eq_false_iff_ne.2 (by omega)
     clear hz hm0
     go_wp2_with fail
     go_meet
     case rel => exact ⟨rfl, rfl⟩
   ·
    have q1 : ((nn : Int) == 0) = false := beq_eq_false_iff_ne.2 (by omega)
    clear hz
    go_wp2_with fail
    go_meet
    case rel => exact ⟨rfl, rfl⟩
  case rest =>
  obtain ⟨rfl, rfl⟩ := hcut
  have hap := edit_Apply.calls 3000 A0 c0 l Ad cd δ nx want 0 V8 (by rw [Hn.out]; exact Kd.C_below HRN.out HVB.out) (by rw [Hn.out]; exact HCN0.out) (by rw [Hnd.out]; exact (RN.C HD.out).2.2) (by rw [Hnd.out]; exact (RN.C HD.out).2.1) (by
   have h1 := HL.out
   have h2 := HDL.out
   have h3 := Hn.out
   rw [apply_is (by omega) (by omega) (by omega), HAP.out, Hw.out])
  rw [Hn.out, Hnd.out] at hap
  have HAPP := za0.mk hap
  clear hap
  go_wp2_with fail
  refine HAPP.out.mono ?_
  rintro e V9 ⟨vx, vl, rfl, hrx, hrl, hb⟩
  obtain ⟨Ax, cx, rfl⟩ := RN.slice hrx
  obtain ⟨Al, cl, rfl⟩ := Kd.R_slice hrl
  obtain ⟨Nx, HNx⟩ : ∃ k, za0 (nx.length = k) := ⟨_, ⟨rfl⟩⟩
  obtain ⟨Nw, HNw⟩ : ∃ k, za0 (want.length = k) := ⟨_, ⟨rfl⟩⟩
  rw [HNx.out] at hrx ⊢
  rw [HNw.out] at hrl ⊢
  have HX : za0 (RN V9 V1.heap.size (.slice Ax Nx cx) nx) := ⟨Kd.R_lower hrx HVB.out.size⟩
  have HLW : za0 (Nw ≤ cl ∧ Kd.C (Kd.int .i32) V9 Al Nw want) := ⟨(RI.C hrl).2⟩
  have HVB := za0.mk (za5 HVB.out hb)
  clear hrx hrl hb HAPP HD
  have hcut := redpencilref15_Cut.calls Ao co old (at_ : Int) (nn : Int) A4 c4 rs want V9 (by rw [Hnv.out]; exact Kd.C_below HO.out.2 HVB.out) (by rw [Hnv.out]; exact HO.out.1) (by rw [Hm.out]; exact Kd.C_below HR4N.out HVB.out) (by rw [Hm.out]; exact HC4N.out) (by
   have h1 := HSP.out
   have h2 := HL.out
   unfold redpencilref15_Cut.f
   rw [if_pos (by rw [Hnv.out, Hm.out]; omega), Int.toNat_natCast, show ((at_ : Int) + (nn : Int)).toNat = at_ + nn by omega, ← HTX.out])
  rw [Hnv.out, Hm.out] at hcut
  have HCUT := za0.mk hcut
  clear hcut
  obtain ⟨k0, k1, k2⟩ := act_cells (za7 HACT.out HVB.out)
  go_wp2_with fail
  clear k0 k1 k2
  refine HCUT.out.mono ?_
  rintro e V10 ⟨vw, rfl, hrw, hb⟩
  obtain ⟨Aw, cw, rfl⟩ := Kd.R_slice hrw
  rw [HNw.out] at hrw ⊢
  have HW : za0 (RI V10 V1.heap.size (.slice Aw Nw cw) want) := ⟨Kd.R_lower hrw HVB.out.size⟩
  have HX := za0.mk (RN.below' HX.out hb)
  have HLW : za0 (Nw ≤ cl ∧ Kd.C (Kd.int .i32) V10 Al Nw want) := ⟨HLW.out.1, Kd.C_below HLW.out.2 hb⟩
  have HVB := za0.mk (za5 HVB.out hb)
  clear hrw hb HCUT
  have hs := redpencilref15_Same.calls 3000 Al cl want Aw cw want true V10 (by rw [HNw.out]; exact HLW.out.2) (by rw [HNw.out]; exact HLW.out.1) (by rw [HNw.out]; exact (RI.C HW.out).2.2) (by rw [HNw.out]; exact (RI.C HW.out).2.1) (jsameI_is want (by have := HWL.out; omega) (by have := HWL.out; omega))
  rw [HNw.out] at hs
  have HSA := za0.mk hs
  clear hs
  go_wp2_with fail
  refine HSA.out.mono ?_
  rintro e V11 ⟨rfl, hb⟩
  have HW := za0.mk (Kd.R_below HW.out hb.below)
  have HX := za0.mk (RN.below' HX.out hb.below)
  have HVB := za0.mk (za5 HVB.out hb.below)
  clear hb HSA HLW
  have hs := redpencilref14_Runes.calls 3000 Ax cx nx want V11 (by rw [HNx.out]; exact (RN.C HX.out).2.2) (by rw [HNx.out]; exact (RN.C HX.out).2.1) (by rw [jrunes_is (by have := HXL.out; omega) HXS.out (by have := HXL.out; omega), Hw.out])
  rw [HNx.out] at hs
  have HSA := za0.mk hs
  clear hs
  go_wp2_with fail
  refine HSA.out.mono ?_
  rintro e V12 ⟨v2, rfl, hr2, hb⟩
  obtain ⟨A2, c2, rfl⟩ := Kd.R_slice hr2
  rw [HNw.out] at hr2 ⊢
  have HW := za0.mk (Kd.R_below HW.out hb)
  have HX := za0.mk (RN.below' HX.out hb)
  have HVB := za0.mk (za5 HVB.out hb)
  have hs := redpencilref15_Same.calls 3000 A2 c2 want Aw cw want true V12 (by rw [HNw.out]; exact (RI.C hr2).2.2) (by rw [HNw.out]; exact (RI.C hr2).2.1) (by rw [HNw.out]; exact (RI.C HW.out).2.2) (by rw [HNw.out]; exact (RI.C HW.out).2.1) (jsameI_is want (by have := HWL.out; omega) (by have := HWL.out; omega))
  rw [HNw.out] at hs
  clear hb hr2 HSA
  have HSA := za0.mk hs
  clear hs
  go_wp2_with fail
  refine HSA.out.mono ?_
  rintro e V13 ⟨rfl, hb⟩
  have HW := za0.mk (Kd.R_below HW.out hb.below)
  have HX := za0.mk (RN.below' HX.out hb.below)
  have HVB := za0.mk (za5 HVB.out hb.below)
  clear hb HSA
  have hs := redpencilref14_Well.calls 5000 Ax cx nx true V13 (by rw [HNx.out]; exact (RN.C HX.out).2.2) (by rw [HNx.out]; exact (RN.C HX.out).2.1) (by rw [jwell_is (by have := HXL.out; omega) (by have := HXL.out; omega), HXW.out])
  rw [HNx.out] at hs
  have HSA := za0.mk hs
  clear hs
  go_wp2_with fail
  refine HSA.out.mono ?_
  rintro e V14 ⟨rfl, hb⟩
  have HW := za0.mk (Kd.R_below HW.out hb)
  have HX := za0.mk (RN.below' HX.out hb)
  have HVB := za0.mk (za5 HVB.out hb)
  clear hb HSA
  have HW6 : za0 (wrap64 (d.f1 + (m : Int)) = d.f1 + (m : Int)) := ⟨by have := HCN.out; unfold wrap64; omega⟩
  go_wp2_with fail
  refine AnyOrder.wp_region (by kernel_rfl) (ed17Inv V14.drew A4 Ax Aw m c4 ga Nx cx Nw cw d _ _ _ _ _ _ _ _ _ _ _ _ _ _ _ _ _ _ _ _ _ _ _ _ _ _ _ _ _ _ _ _ _ _ _ _ _ _ _ _ _ _ _ _ _ _ _ _ _ _ _ _ _ _ _ _ _ _ _ _ _ _ _ _ _ _ _ _ _ _ _ _ _ _ _ _ _ _ _ _ _ _ _ _ _ _ _ _ _ _ _ _ _ _ _ _ _ _ _ _ _ _ _ _ _ _ _ _ _ _ _ _ _ _ _ _ _ _ _ _ _ _ _ _ _ _ _ _ _) ⟨false, false, false, false, false, false, false, false, false, false, false, rfl, rfl, ⟨Below.refl _ _⟩⟩ ?_ ?_
  ·
   rintro L ac V i ⟨l0, l1, l2, l3, l4, l5, l6, l7, l8, l9, l10, rfl, rfl, HF⟩ hi K hK
   rcases AnyOrder.up hi [0, 1, 2, 3, 5, 7, 8, 9, 10, 4, 6] rfl with rfl | rfl | rfl | rfl | rfl | rfl | rfl | rfl | rfl | rfl | rfl
   all_goals
    replace hi := AnyOrder.first hi rfl
    repeat (obtain ⟨ha, hi⟩ := hi; first | obtain rfl := ha | clear ha)
    clear hi
    try simp only [sel_true, selv_true] at hK ⊢
   iterate 9
    ·
     refine AnyOrder.wpOp_go rfl (by rfl) ?_
     go_wp2_with fail
     exact ⟨_, _, _, _, _, _, _, _, _, _, _, rfl, rfl, HF⟩
   ·
    obtain ⟨k0, k1, k2⟩ := act_cells (za7 HACT.out (za5 HVB.out (za5 (za3 (Below.refl _ V14)) HF.out)))
    refine AnyOrder.wpOp_go rfl (by rfl) ?_
    go_wp2_with fail
    exact ⟨_, _, _, _, _, _, _, _, _, _, _, rfl, rfl, HF⟩
   ·
    refine AnyOrder.wpOp_go rfl (by rfl) ?_
    go_wp2_with fail
    rw [HW6.out]
    exact ⟨_, _, _, _, _, _, _, _, _, _, _, rfl, rfl, HF⟩
  ·
   rintro L ac V ⟨l0, l1, l2, l3, l4, l5, l6, l7, l8, l9, l10, rfl, rfl, HF⟩ hr
   obtain ⟨rfl, rfl, rfl, rfl, rfl, rfl, rfl, rfl, rfl, rfl, rfl, -⟩ := AnyOrder.alls rfl (by kernel_rfl) hr
   clear hr
   simp only [sel_true, selv_true]
   have hbd := za5 (za3 (Below.refl _ V14)) HF.out
   have HW := za0.mk (Kd.R_below HW.out hbd)
   have HX := za0.mk (RN.below' HX.out hbd)
   have HVB := za0.mk (za5 HVB.out hbd)
   clear HF hbd
   go_wp2
   ((try simp only [Exit.inBlock, Exit.then]); refine bodyPost_ret (results_tmp4 rfl _ _ _) rfl ?_)
   exact ⟨_, _, rfl, Kd.R_lower HX.out HB.out.size, Kd.R_lower HW.out HB.out.size, za5 HB.out HVB.out⟩
end
end Go.Proofs.YtmbndijbpgobeaaGreat.PWalk
end
section
namespace Go.Proofs.YtmbndijbpgobeaaGreat.PWalk
section

end
end Go.Proofs.YtmbndijbpgobeaaGreat.PWalk
end
