/-
  The law EditLongs returns true for every number and every rune, and leaves its input as it was: as many runes as may be inserted and deleted at once, and one more. Part 5 of 12.
-/
import Derived.Test.YtmbndijbpgobeaaGreatLD
import Derived.Shelf.SlSortCmp.WholeK
import Derived.Shelf.SlGeneric
import Derived.Ground.SlsfProg
import Derived.Test.YtmbndijbpgobeaaGreatProg
section
namespace Go.Proofs.YtmbndijbpgobeaaGreat.PWalk
open Go.RowKit Go.Proofs.YtmbndijbpgobeaaGreatW.PrintWords Go.Proofs.YtmbndijbpgobeaaGreatW.PrintLast Go.Proofs.YtmbndijbpgobeaaGreatW.PrintMore
set_option linter.unusedVariables false
set_option linter.unusedSimpArgs false
open Go.Shelf
attribute [local go_sem] Oper.semAt_some
theorem insert_call (base : Nat) (v : Value) (n i : Nat) (cs : List Value) (k : Dot) (u : Value) (gE : Nat) (w : World) (ho : w.ownsRow base 176 3 v n cs)
  (hE : w.heap[gE]? = some (.cells #[.int .i64 k.f0, .int .i64 k.f1, u] 176 (0, 0))) (hne : some gE ≠ v.ownBlock) (hu1 : u.oneCell' = true) (hcs1 : ∀ v ∈ cs, v.oneCell' = true) (hn : n ≤ 1000000) (hi : i ≤ n) (hb : base ≤ w.heap.size) :
  Calls Tryz.prog 137 #[v, .int .i64 i, .slice (some ⟨gE, 0, none⟩) 1 1] w fun e w' => ∃ v', e = .returned v' ∧ w'.ownsRow base 176 3 v' (n + 1) (cs.take (i * 3) ++ entCells k u ++ cs.drop (i * 3)) ∧ w.grownBy w' v.ownBlock := by
 have hcl : cs.length = n * 3 := ho.1
 by_cases hin : i = n
 ·
  subst hin
  obtain ⟨A, cap, rfl⟩ : ∃ A cap, v = .slice A i cap := by
   rcases ho.2 with ⟨rfl, rfl⟩ | ⟨g, c, cur, rfl, _⟩
   ·
    exact ⟨none, 0, rfl⟩
   ·
    exact ⟨_, _, rfl⟩
  rw [List.take_of_length_le (by omega), List.drop_of_length_le (by omega), List.append_nil]
  exact insert_end base A i cap cs k u gE w ho hE hu1 hn hb
 ·
  obtain ⟨g, cap, rfl⟩ : ∃ g cap, v = .slice (some ⟨g, 0, none⟩) n cap := by
   rcases ho.2 with ⟨_, h⟩ | ⟨g, c, cur, rfl, _⟩
   ·
    omega
   ·
    exact ⟨_, _, rfl⟩
  have hg : gE ≠ g := fun e => hne (by subst e; rfl)
  by_cases hr : n + 1 ≤ cap
  ·
   exact insert_shift base g n cap i cs k u gE w ho hE hg hu1 hcs1 hn (by omega) hr
  ·
   exact insert_grow base g n cap i cs k u gE w ho hE hu1 hcs1 hn (by omega) (by omega) hb
/-- Only the blocks of E have turned. -/
structure Tch (E : Nat → Prop) (W W' : World) : Prop where
 os : W'.os = W.os
 tape : W'.tape = W.tape
 output : W'.output = W.output
 size : W.heap.size ≤ W'.heap.size
 block : ∀ i, i < W.heap.size → ¬ E i → W'.heap[i]? = W.heap[i]?
theorem Tch.below {E : Nat → Prop} {W W' : World} (h : Below W.heap.size W W') : Tch E W W' := ⟨h.os, h.tape, h.output, h.size, fun i hi _ => h.block i hi⟩
theorem Tch.grown {E : Nat → Prop} {W W' : World} {row : Option Nat} (h : W.grownBy W' row) (hr : ∀ r, row = some r → E r) : Tch E W W' := ⟨h.os, h.tape, h.output, h.size, fun i hi he => h.block i hi (fun e => he (hr i e.symm))⟩
theorem Tch.trans {E E' : Nat → Prop} {A B C : World} (h : Tch E A B) (k : Tch E' B C) (he : ∀ i, i < A.heap.size → E' i → E i) : Tch E A C :=
 ⟨k.os.trans h.os, k.tape.trans h.tape, k.output.trans h.output, Nat.le_trans h.size k.size, fun i hi hn => (k.block i (Nat.lt_of_lt_of_le hi h.size) (fun e => hn (he i hi e))).trans (h.block i hi hn)⟩
theorem Tch.mono {E E' : Nat → Prop} {A B : World} (h : Tch E A B) (he : ∀ i, i < A.heap.size → E i → E' i) : Tch E' A B := ⟨h.os, h.tape, h.output, h.size, fun i hi hn => h.block i hi (fun e => hn (he i hi e))⟩
theorem Tch.on {E : Nat → Prop} {w W W' : World} (h : Tch E W W') (hb : Below w.heap.size w W) (he : ∀ i, E i → w.heap.size ≤ i) : Below w.heap.size w W' :=
 ⟨h.os.trans hb.os, h.tape.trans hb.tape, h.output.trans hb.output, Nat.le_trans hb.size h.size, fun i hi => (h.block i (Nat.lt_of_lt_of_le hi hb.size) (fun e => by have := he i e; omega)).trans (hb.block i hi)⟩
def entsOf : List Dot → List Value → List Value
 | k :: ks, v :: vs => entCells k v ++ entsOf ks vs
 | _, _ => []
theorem entsOf_length : ∀ {ks : List Dot} {vs : List Value}, vs.length = ks.length → (entsOf ks vs).length = ks.length * 3
 | [], [], _ => rfl
 | k :: ks, v :: vs, h => by
  have := entsOf_length (ks := ks) (vs := vs) (by simpa using h)
  rw [entsOf, List.length_append, this]; simp; omega
 | [], v :: vs, h => by simp at h
 | k :: ks, [], h => by simp at h
theorem entsOf_take : ∀ {ks : List Dot} {vs : List Value} (i : Nat), vs.length = ks.length → entsOf (ks.take i) (vs.take i) = (entsOf ks vs).take (i * 3)
 | [], [], i, _ => by simp [entsOf]
 | k :: ks, v :: vs, 0, _ => by simp [entsOf]
 | k :: ks, v :: vs, i + 1, h => by
  rw [List.take_succ_cons, List.take_succ_cons, entsOf, entsOf, entsOf_take i (by simpa using h), show (i + 1) * 3 = (entCells k v).length + i * 3 by show _ = 3 + i * 3; omega, List.take_length_add_append]
 | [], v :: vs, i, h => by simp at h
 | k :: ks, [], i, h => by simp at h
theorem entsOf_drop : ∀ {ks : List Dot} {vs : List Value} (i : Nat), vs.length = ks.length → entsOf (ks.drop i) (vs.drop i) = (entsOf ks vs).drop (i * 3)
 | [], [], i, _ => by simp [entsOf]
 | k :: ks, v :: vs, 0, _ => by simp
 | k :: ks, v :: vs, i + 1, h => by
  rw [List.drop_succ_cons, List.drop_succ_cons, entsOf, entsOf_drop i (by simpa using h), show (i + 1) * 3 = (entCells k v).length + i * 3 by show _ = 3 + i * 3; omega, List.drop_length_add_append]
 | [], v :: vs, i, h => by simp at h
 | k :: ks, [], i, h => by simp at h
theorem entsOf_append : ∀ {ks ks' : List Dot} {vs vs' : List Value}, vs.length = ks.length → entsOf (ks ++ ks') (vs ++ vs') = entsOf ks vs ++ entsOf ks' vs'
 | [], _, [], _, _ => rfl
 | k :: ks, _, v :: vs, _, h => by
  rw [List.cons_append, List.cons_append, entsOf, entsOf, entsOf_append (by simpa using h), List.append_assoc]
 | [], _, v :: vs, _, h => by simp at h
 | k :: ks, _, [], _, h => by simp at h
theorem entsOf_get : ∀ {ks : List Dot} {vs : List Value} {i : Nat} {k : Dot} {v : Value}, ks[i]? = some k → vs[i]? = some v → ∀ j, j < 3 → (entsOf ks vs)[i * 3 + j]? = (entCells k v)[j]?
 | k :: ks, v :: vs, 0, k', v', hk, hv, j, hj => by
  simp at hk hv; subst hk hv
  rw [entsOf, Nat.zero_mul, Nat.zero_add, List.getElem?_append_left (by show j < 3; exact hj)]
 | k :: ks, v :: vs, i + 1, k', v', hk, hv, j, hj => by
  rw [entsOf, show (i + 1) * 3 + j = 3 + (i * 3 + j) by omega, List.getElem?_append_right (by show 3 ≤ _; omega)]
  rw [show 3 + (i * 3 + j) - (entCells k v).length = i * 3 + j by show 3 + (i * 3 + j) - 3 = _; omega]
  exact entsOf_get (by simpa using hk) (by simpa using hv) j hj
 | [], _, i, k, v, hk, _, _, _ => by simp at hk
 | _ :: _, [], i, k, v, _, hv, _, _ => by simp at hv
theorem entsOf_one : ∀ {ks : List Dot} {vs : List Value}, (∀ v ∈ vs, v.oneCell' = true) → ∀ u ∈ entsOf ks vs, u.oneCell' = true
 | [], _, _, u, hu => by simp [entsOf] at hu
 | _ :: _, [], _, u, hu => by simp [entsOf] at hu
 | k :: ks, v :: vs, h, u, hu => by
  rw [entsOf] at hu
  rcases List.mem_append.1 hu with hu | hu
  ·
   exact entCells_one (h v List.mem_cons_self) u hu
  ·
   exact entsOf_one (fun x hx => h x (List.mem_cons_of_mem _ hx)) u hu
theorem entsOf_set : ∀ {ks : List Dot} {vs : List Value} {i : Nat} {k : Dot} {u : Value}, vs.length = ks.length → ks[i]? = some k → entsOf ks (vs.set i u) = (entsOf ks vs).set (i * 3 + 2) u
 | k :: ks, v :: vs, 0, k', u, h, hk => by simp [entsOf]
 | k :: ks, v :: vs, i + 1, k', u, h, hk => by
  rw [List.set_cons_succ, entsOf, entsOf, entsOf_set (by simpa using h) (by simpa using hk), List.set_append_right _ _ (by show 3 ≤ _; omega)]
  congr 2
  show i * 3 + 2 = (i + 1) * 3 + 2 - 3
  omega
 | [], _, i, k, u, _, hk => by simp at hk
 | k :: ks, [], i, k', u, h, _ => by simp at h
/-- The map at mp has these keys with these values, in memory of the call's own. -/
structure MapSt (base : Nat) (W : World) (mp : Nat) (v : Value) (ks : List Dot) (vs : List Value) : Prop where
 map : W.heap[mp]? = some (.cells #[cmpV, v] 173 (0, 0))
 own : base ≤ mp
 row : W.ownsRow base 176 3 v ks.length (entsOf ks vs)
 len : vs.length = ks.length
 small : ks.length ≤ 1000000
 one : ∀ v ∈ vs, v.oneCell' = true
 inc : incB ks = true
theorem MapSt.ents {base : Nat} {W : World} {mp : Nat} {v : Value} {ks : List Dot} {vs : List Value} (h : MapSt base W mp v ks vs) : ∃ A c, v = .slice A ks.length c ∧ Ents W A ks.length ks vs := by
 rcases h.row.2 with ⟨rfl, h0⟩ | ⟨g, c, cur, rfl, hbg, hcur, hle, hmx, hsz, htk⟩
 ·
  have hks : ks = [] := List.length_eq_zero_iff.1 h0
  subst hks
  exact ⟨none, 0, rfl, ⟨rfl, h.len, by simp, h.one, fun i k v hk => by simp at hk⟩⟩
 ·
  refine ⟨_, c, rfl, ⟨rfl, h.len, h.small, h.one, fun i k v hk hv => ⟨g, rfl, ?_⟩⟩⟩
  have hi : i < ks.length := (List.getElem?_eq_some_iff.1 hk).1
  have hc : ∀ j, j < 3 → W.cell? ⟨g, i * 3 + j, none⟩ = (entCells k v)[j]? := fun j hj => by
   rw [blk_cell hcur, ← Array.getElem?_toList, ← entsOf_get hk hv j hj, ← htk, List.getElem?_take, if_pos (by omega)]
  exact ⟨hc 0 (by decide), hc 1 (by decide), hc 2 (by decide)⟩
theorem ownsRow_keep {W V : World} {base e size n : Nat} {v : Value} {xs : List Value} (h : W.ownsRow base e size v n xs) (hk : ∀ g, v.ownBlock = some g → V.heap[g]? = W.heap[g]?) : V.ownsRow base e size v n xs := by
 refine ⟨h.1, h.2.imp id ?_⟩
 rintro ⟨g, c, cur, rfl, hbg, hcur, hr⟩
 exact ⟨g, c, cur, rfl, hbg, (hk g rfl).trans hcur, hr⟩
theorem MapSt.keep {base : Nat} {W V : World} {mp : Nat} {v : Value} {ks : List Dot} {vs : List Value} (h : MapSt base W mp v ks vs) (hm : V.heap[mp]? = W.heap[mp]?) (hv : ∀ g, v.ownBlock = some g → V.heap[g]? = W.heap[g]?) : MapSt base V mp v ks vs :=
 ⟨hm.trans h.map, h.own, ownsRow_keep h.row hv, h.len, h.small, h.one, h.inc⟩
theorem MapSt.below {base : Nat} {W V : World} {mp : Nat} {v : Value} {ks : List Dot} {vs : List Value} (h : MapSt base W mp v ks vs) (hb : Below W.heap.size W V) : MapSt base V mp v ks vs :=
 h.keep (hb.block mp (blk_lt h.map)) (fun g hg => by
  rcases h.row.2 with ⟨rfl, _⟩ | ⟨g', c, cur, rfl, _, hcur, _⟩
  ·
   cases hg
  ·
   cases hg; exact hb.block _ (blk_lt hcur))
/-- The map's own blocks. -/
def MapBl (mp : Nat) (v : Value) (i : Nat) : Prop := i = mp ∨ v.ownBlock = some i
theorem MapSt.apart {base : Nat} {W : World} {mp : Nat} {v : Value} {ks : List Dot} {vs : List Value} (h : MapSt base W mp v ks vs) : v.ownBlock ≠ some mp := fun e => by
 rcases h.row.2 with ⟨rfl, _⟩ | ⟨g, c, cur, rfl, _, hcur, _⟩
 ·
  cases e
 ·
  cases e
  rw [h.map] at hcur
  exact absurd (Obj.cells.inj (Option.some.inj hcur)).2.1 (by decide)
theorem MapSt.base_le {base : Nat} {W : World} {mp : Nat} {v : Value} {ks : List Dot} {vs : List Value} (h : MapSt base W mp v ks vs) {i : Nat} (hi : MapBl mp v i) : base ≤ i := by
 rcases hi with rfl | hi
 ·
  exact h.own
 ·
  rcases h.row.2 with ⟨rfl, _⟩ | ⟨g, c, cur, rfl, hb, hcur, _⟩
  ·
   cases hi
  ·
   cases hi; exact hb
def setKs (ks : List Dot) (d : Dot) : List Dot := if hasK ks d = true then ks else ks.take (posK ks d) ++ d :: ks.drop (posK ks d)
def setVs (ks : List Dot) (vs : List Value) (d : Dot) (u : Value) : List Value := if hasK ks d = true then vs.set (posK ks d) u else vs.take (posK ks d) ++ u :: vs.drop (posK ks d)
theorem setKs_len {ks : List Dot} {d : Dot} (h : hasK ks d = false) : (setKs ks d).length = ks.length + 1 := by
 unfold setKs
 rw [if_neg (by rw [h]; decide), List.length_append, List.length_cons, List.length_take, List.length_drop]
 have := posK_le ks d
 omega
theorem entsOf_ins {ks : List Dot} {vs : List Value} {d : Dot} {u : Value} (h : hasK ks d = false) (hl : vs.length = ks.length) : entsOf (setKs ks d) (setVs ks vs d u) = (entsOf ks vs).take (posK ks d * 3) ++ entCells d u ++ (entsOf ks vs).drop (posK ks d * 3) := by
 unfold setKs setVs
 rw [if_neg (by rw [h]; decide), if_neg (by rw [h]; decide), entsOf_append (by rw [List.length_take, List.length_take, hl]), entsOf, entsOf_take _ hl, entsOf_drop _ hl, List.append_assoc]
theorem setKs_inc {ks : List Dot} {d : Dot} (h : incB ks = true) : incB (setKs ks d) = true := by
 unfold setKs
 by_cases hh : hasK ks d = true
 ·
  rw [if_pos hh]; exact h
 ·
  rw [if_neg hh]
  have hq : ks[posK ks d]? ≠ some d := fun e => hh (by unfold hasK; exact decide_eq_true e)
  unfold posK at hq ⊢
  clear hh
  induction ks with
  | nil => rfl
  | cons y ks ih =>
   obtain ⟨h1, h2⟩ := incB_tail h
   rw [List.takeWhile_cons] at hq ⊢
   by_cases hy : dotLt y d = true
   ·
    rw [if_pos hy] at hq ⊢
    simp only [List.length_cons, List.take_succ_cons, List.drop_succ_cons, List.cons_append] at hq ⊢
    have hr := ih h1 (by simpa using hq)
    revert hr
    generalize (List.takeWhile (fun k => dotLt k d) ks).length = q
    intro hr
    cases q with
    | zero =>
     simp only [List.take_zero, List.nil_append, List.drop_zero] at hr ⊢
     simp only [incB, hy, Bool.true_and]
     exact hr
    | succ q =>
     cases ks with
     | nil =>
      simp only [List.take_nil, List.nil_append, List.drop_nil] at hr ⊢
      simp only [incB, hy, Bool.true_and]
     | cons z ks =>
      simp only [List.take_succ_cons, List.cons_append] at hr ⊢
      simp only [incB, h2 z List.mem_cons_self, Bool.true_and]
      exact hr
   ·
    rw [if_neg hy] at hq ⊢
    simp only [List.length_nil, List.take_zero, List.nil_append, List.drop_zero] at hq ⊢
    have hne : y ≠ d := fun e => hq (by rw [e]; rfl)
    have : dotLt d y = true := by
     cases hh : dotLt d y with
     | true => rfl
     | false => exact absurd (dotLt_total (by simpa using hy) hh) hne
    simp only [incB, this, Bool.true_and]
    exact h
structure SetF (base : Nat) (w1 : World) (mp : Nat) (v : Value) (ks : List Dot) (vs : List Value) (d : Dot) (u : Value) (l4 l6 l8 l9 l10 l13 : Bool) (g : Nat) (vv : Value) (V : World) : Prop where
 ord8 : l8 = true → l6 = true
 ord9 : l9 = true → l6 = true
 ord10 : l10 = true → l4 = true ∧ l6 = true ∧ l9 = true
 ord13 : l13 = true → l10 = true
 pre : l10 = false → Below w1.heap.size w1 V
 ent : l9 = true → l10 = false → w1.heap.size ≤ g ∧ V.heap[g]? = some (.cells #[.int .i64 d.f0, .int .i64 d.f1, u] 176 (0, 0))
 mid : l10 = true → l13 = false → V.ownsRow base 176 3 vv (ks.length + 1) (entsOf (setKs ks d) (setVs ks vs d u)) ∧ V.heap[mp]? = w1.heap[mp]? ∧ Tch (fun i => v.ownBlock = some i) w1 V
 fin : l13 = true → V.heap[mp]? = some (.cells #[cmpV, vv] 173 (0, 0)) ∧ V.ownsRow base 176 3 vv (ks.length + 1) (entsOf (setKs ks d) (setVs ks vs d u)) ∧ Tch (MapBl mp v) w1 V
theorem SetF.no {base : Nat} {w1 : World} {mp : Nat} {v : Value} {ks : List Dot} {vs : List Value} {d : Dot} {u : Value} {l4 l6 l8 l9 l10 l13 : Bool} {g : Nat} {vv : Value} {V : World} (h : SetF base w1 mp v ks vs d u l4 l6 l8 l9 l10 l13 g vv V) (hl : l4 = false ∨ l6 = false ∨ l9 = false) : l10 = false ∧ l13 = false := by
 have h10 : l10 = false := by
  cases l10 with
  | false => rfl
  | true =>
   obtain ⟨h1, h2, h3⟩ := h.ord10 rfl
   rcases hl with hl | hl | hl
   ·
    rw [hl] at h1; cases h1
   ·
    rw [hl] at h2; cases h2
   ·
    rw [hl] at h3; cases h3
 refine ⟨h10, ?_⟩
 cases l13 with
 | false => rfl
 | true => have := h.ord13 rfl; rw [h10] at this; cases this
theorem set_insert {base mp : Nat} {v : Value} {ks : List Dot} {vs : List Value} {d : Dot} {u : Value} {q : Nat} {w1 V : World} {g : Nat} (hM : MapSt base w1 mp v ks vs) (hf : hasK ks d = false) (hq : posK ks d = q) (hu : u.oneCell' = true) (hb : base ≤ w1.heap.size) (hbw : Below w1.heap.size w1 V) (he : w1.heap.size ≤ g ∧ V.heap[g]? = some (.cells #[.int .i64 d.f0, .int .i64 d.f1, u] 176 (0, 0))) :
  Calls Tryz.prog 137 #[v, .int .i64 q, .slice (some ⟨g, 0, none⟩) 1 1] V fun e V' => ∃ v2, e = .returned v2 ∧ V'.ownsRow base 176 3 v2 (ks.length + 1) (entsOf (setKs ks d) (setVs ks vs d u)) ∧ V'.heap[mp]? = w1.heap[mp]? ∧ Tch (fun i => v.ownBlock = some i) w1 V' := by
 have hM2 := hM.below hbw
 have hql : q ≤ ks.length := by rw [← hq]; exact posK_le ks d
 refine (insert_call base v ks.length q (entsOf ks vs) d u g V hM2.row he.2 ?_ hu (entsOf_one hM.one) hM.small hql (Nat.le_trans hb hbw.size)).mono ?_
 ·
  intro e
  rcases hM.row.2 with ⟨rfl, _⟩ | ⟨g', c, cur, rfl, _, hcur, _⟩
  ·
   cases e
  ·
   have e2 : g = g' := Option.some.inj e
   have := blk_lt hcur
   omega
 ·
  rintro e V' ⟨v2, rfl, ho, hg⟩
  refine ⟨v2, rfl, by rw [entsOf_ins hf hM.len, hq]; exact ho, ?_, (Tch.below hbw).trans (Tch.grown hg (fun r e => e)) (fun i _ e => e)⟩
  exact (hg.block mp (blk_lt hM2.map) (fun e => hM.apart e.symm)).trans (hM2.map.trans hM.map.symm)
theorem ownsRow_slice {base e size n : Nat} {v : Value} {xs : List Value} {W : World} (h : W.ownsRow base e size v n xs) : ∃ A c, v = .slice A n c := by
 rcases h.2 with ⟨rfl, rfl⟩ | ⟨g, c, cur, rfl, _⟩
 ·
  exact ⟨none, 0, rfl⟩
 ·
  exact ⟨_, _, rfl⟩
theorem set_store {base mp n : Nat} {v vv : Value} {xs : List Value} {w1 V : World} (hr : V.ownsRow base 176 3 vv n xs) (hm : V.heap[mp]? = some (.cells #[cmpV, v] 173 (0, 0))) (ht : Tch (fun i => v.ownBlock = some i) w1 V) :
  (V.setCell ⟨mp, 1, none⟩ vv).heap[mp]? = some (.cells #[cmpV, vv] 173 (0, 0)) ∧ (V.setCell ⟨mp, 1, none⟩ vv).ownsRow base 176 3 vv n xs ∧ Tch (MapBl mp v) w1 (V.setCell ⟨mp, 1, none⟩ vv) := by
 have hgr : V.grownBy (V.setCell ⟨mp, 1, none⟩ vv) (some mp) := ⟨rfl, rfl, rfl, by rw [World.size_setCell]; exact Nat.le_refl _, fun k hk hne => Below.heap_setCell V _ _ k (fun e => hne (by rw [e]))⟩
 refine ⟨blk_set hm 1 vv, ownsRow_keep hr (fun g hg => ?_), Tch.trans (E := MapBl mp v) (ht.mono (fun i _ h => Or.inr h)) (Tch.grown hgr (E := fun i => mp = i) (fun r e => Option.some.inj e)) (fun i _ e => Or.inl e.symm)⟩
 refine Below.heap_setCell V _ _ g (fun e => ?_)
 rcases hr.2 with ⟨rfl, _⟩ | ⟨g', c, cur, rfl, _, hcur, _⟩
 ·
  cases hg
 ·
  cases hg
  rw [show g' = mp from e, hm] at hcur
  exact absurd (Obj.cells.inj (Option.some.inj hcur)).2.1 (by decide)
def setInv (base : Nat) (w1 : World) (B mp : Nat) (v : Value) (ks : List Dot) (vs : List Value) (d : Dot) (q : Nat) (Au : Option Addr) (nu cu : Nat) (z9 z10 z11 z12 z13 z14 z15 z16 z17 z18 z19 z20 : Value) (L : Array Bool) (ac : Act) (V : World) : Prop := ∃ (l0 l1 l2 l3 l4 l5 l6 l7 l8 l9 l10 l11 l12 l13 : Bool) (g : Nat) (vv : Value), L = #[l0, l1, l2, l3, l4, l5, l6, l7, l8, l9, l10, l11, l12, l13] ∧ ac = { tmps := #[.pointer (some ⟨mp, 0, none⟩), vDot d, .slice Au nu cu, undef, .pointer (some ⟨B, 0, none⟩), undef, .slice none 0 0, .bool false, .int .i64 q, z9, z10, z11, z12, z13, z14, z15, z16, z17, z18, z19, z20, sel l0 (.pointer (some ⟨mp, 0, none⟩)), sel l1 (.pointer (some ⟨mp, 0, none⟩)), sel l2 (.pointer (some ⟨mp, 0, none⟩)), sel l3 (.pointer (some ⟨mp, 1, none⟩)), sel l4 (v), sel l5 (.int .i64 q), sel l6 (vDot d), sel l7 (.slice Au nu cu), sel l8 (vEnt d (.slice Au nu cu)), sel l9 (.slice (some ⟨g, 0, none⟩) 1 1), sel l10 (vv), sel l11 (.pointer (some ⟨mp, 0, none⟩)), sel l12 (.pointer (some ⟨mp, 1, none⟩)), undef, undef, undef, undef, undef, undef, undef, undef, undef, undef, undef, undef, undef, undef, undef, undef, undef, undef], defers := [] } ∧ Aside0 (SetF base w1 mp v ks vs d (.slice Au nu cu) l4 l6 l8 l9 l10 l13 g vv V)
set_option maxHeartbeats 2000000 in
set_option maxRecDepth 100000 in
theorem set_call (base mp : Nat) (v : Value) (ks : List Dot) (vs : List Value) (d : Dot) (Au : Option Addr) (nu cu : Nat) (w : World) (h : MapSt base w mp v ks vs) (hn : ks.length < 1000000) (hb : base ≤ w.heap.size) :
  Calls Tryz.prog 128 #[.pointer (some ⟨mp, 0, none⟩), vDot d, .slice Au nu cu] w fun e w' => ∃ r v', e = .returned r ∧ MapSt base w' mp v' (setKs ks d) (setVs ks vs d (.slice Au nu cu)) ∧ Tch (MapBl mp v) w w' := by
 have HM : Aside0 (MapSt base (w.alloc (.cells #[.int .i64 d.f0, .int .i64 d.f1] 25 (0, 0))) mp v ks vs) := ⟨h.below (Gr.alloc w _).below⟩
 have HK : Aside0 ((w.alloc (.cells #[.int .i64 d.f0, .int .i64 d.f1] 25 (0, 0))).heap[w.heap.size]? = some (.cells #[.int .i64 d.f0, .int .i64 d.f1] 25 (0, 0))) := ⟨blk_new _ _⟩
 have HB : Aside0 (Below w.heap.size w (w.alloc (.cells #[.int .i64 d.f0, .int .i64 d.f1] 25 (0, 0)))) := ⟨(Gr.alloc w _).below⟩
 have HBS := Aside0.mk hb
 have HN := Aside0.mk hn
 have hc0 : (w.alloc (.cells #[.int .i64 d.f0, .int .i64 d.f1] 25 (0, 0))).cell? ⟨w.heap.size, 0, none⟩ = _ := (blk_cell HK.out 0).trans rfl
 have hc1 : (w.alloc (.cells #[.int .i64 d.f0, .int .i64 d.f1] 25 (0, 0))).cell? ⟨w.heap.size, 1, none⟩ = _ := (blk_cell HK.out 1).trans rfl
 clear h hn hb
 obtain ⟨q, HQ⟩ : ∃ q, Aside0 (posK ks d = q) := ⟨_, ⟨rfl⟩⟩
 obtain ⟨hf, HHF⟩ : ∃ hf, Aside0 (hasK ks d = hf) := ⟨_, ⟨rfl⟩⟩
 go_enter Tryz.func128, Tryz.ntmps128
 go_wp2_with fail
 refine (zero_call mp _ _ HM.out.map).mono ?_
 rintro e w1 ⟨rfl, rfl⟩
 go_wp2_with fail
 obtain ⟨A, c, hv, hents⟩ := HM.out.ents
 have hfind := find_call mp ks vs A ks.length c d _ HM.out.inc hents (by rw [← hv]; exact HM.out.map)
 refine hfind.mono ?_
 clear hfind hents hc0 hc1
 rintro e w1 ⟨rfl, hb⟩
 have HM := Aside0.mk (HM.out.below hb)
 have HK := Aside0.mk (blk_keep HK.out hb)
 have HB := Aside0.mk (below_more HB.out hb)
 rw [HQ.out, HHF.out]
 clear hb
 cases hf with
 | true =>
  have HQN : Aside0 (q < ks.length) := ⟨by have := hasK_lt HHF.out; rwa [HQ.out] at this⟩
  have hqn := HQN.out
  clear hv
  obtain ⟨A, c, rfl, hents⟩ := HM.out.ents
  obtain ⟨k', v', eb, hk, hvk, hv1, rfl, c0, c1, c2⟩ := hents.get HQN.out
  have hm1 : w1.cell? ⟨mp, 1, none⟩ = _ := (blk_cell HM.out.map 1).trans rfl
  have hrow := HM.out.row
  rcases hrow.2 with ⟨h, _⟩ | ⟨g', c', cur, he, hbg, hcur, hle, hmx, hsz, htk⟩
  ·
   cases h
  cases he
  have hfz := blk_frozen hcur (q * 3 + 2)
  have HEND : Aside0 (MapSt base (w1.setCell ⟨eb, q * 3 + 2, none⟩ (.slice Au nu cu)) mp (.slice (some ⟨eb, 0, none⟩) ks.length c) (setKs ks d) (setVs ks vs d (.slice Au nu cu)) ∧ Tch (MapBl mp (.slice (some ⟨eb, 0, none⟩) ks.length c)) w (w1.setCell ⟨eb, q * 3 + 2, none⟩ (.slice Au nu cu))) := ⟨by
   have hgr : w1.grownBy (w1.setCell ⟨eb, q * 3 + 2, none⟩ (.slice Au nu cu)) (some eb) := ⟨rfl, rfl, rfl, by rw [World.size_setCell]; exact Nat.le_refl _, fun k hk hne => Below.heap_setCell w1 _ _ k (fun e => hne (by rw [e]))⟩
   have hne : mp ≠ eb := fun e => HM.out.apart (by rw [e]; rfl)
   have hlen : (vs.set q (.slice Au nu cu)).length = ks.length := by rw [List.length_set]; exact HM.out.len
   have hks : setKs ks d = ks := by unfold setKs; rw [if_pos HHF.out]
   have hvs : setVs ks vs d (.slice Au nu cu) = vs.set q (.slice Au nu cu) := by unfold setVs; rw [if_pos HHF.out, HQ.out]
   rw [hks, hvs]
   refine ⟨⟨(hgr.block mp (blk_lt HM.out.map) (fun e => hne (Option.some.inj e))).trans HM.out.map, HM.out.own, ⟨entsOf_length hlen, .inr ⟨eb, c, _, rfl, hbg, blk_set hcur (q * 3 + 2) _, hle, hmx, by rw [Array.size_setIfInBounds]; exact hsz, ?_⟩⟩, hlen, HM.out.small, ?_, HM.out.inc⟩, ?_⟩
   ·
    rw [Array.toList_setIfInBounds, List.take_set, htk, entsOf_set HM.out.len hk]
   ·
    intro x hx
    rcases List.mem_or_eq_of_mem_set hx with hx | rfl
    ·
     exact HM.out.one x hx
    ·
     rfl
   ·
    exact (Tch.below HB.out).trans (Tch.grown hgr (E := fun i => eb = i) (fun r e => by cases e; rfl)) (fun i _ e => .inr (by subst e; rfl))⟩
  clear hfz hcur htk hsz hrow hents hk hvk hv1 HK HB c0 c1
  have hfz : w1.frozen? ⟨eb, q * 3 + 2, none⟩ = false := by
   rcases HM.out.row.2 with ⟨h, _⟩ | ⟨g', c', cur, he, _, hcur, _⟩
   ·
    cases h
   ·
    cases he; exact blk_frozen hcur _
  go_wp2
  refine bodyPost_ret (results_tmp2 rfl _ _ _) rfl ?_
  exact ⟨_, _, rfl, HEND.out⟩
 | false =>
  have HW1 : Aside0 (base ≤ w1.heap.size) := ⟨Nat.le_trans HBS.out HB.out.size⟩
  clear hv
  go_wp2_with fail
  refine AnyOrder.wp_region (by kernel_rfl) (setInv base w1 w.heap.size mp v ks vs d q Au nu cu _ _ _ _ _ _ _ _ _ _ _ _) ⟨false, false, false, false, false, false, false, false, false, false, false, false, false, false, 0, undef, rfl, rfl, ⟨⟨fun h => (by cases h), fun h => (by cases h), fun h => (by cases h), fun h => (by cases h), fun _ => below_drew1 (Below.refl _ _), fun h => (by cases h), fun h => (by cases h), fun h => (by cases h)⟩⟩⟩ ?step ?last
  case step =>
   rintro L ac V i ⟨l0, l1, l2, l3, l4, l5, l6, l7, l8, l9, l10, l11, l12, l13, g, vv, rfl, rfl, HF⟩ hi K hK
   have h1 : i = 0 ∨ i = 1 ∨ i = 2 ∨ i = 3 ∨ i = 4 ∨ i = 5 ∨ i = 6 ∨ i = 7 ∨ i = 8 ∨ i = 9 ∨ i = 10 ∨ i = 11 ∨ i = 12 ∨ i = 13 := by
    have h1 := (AnyOrder.mem_ready hi).1
    clear hi hK
    change i < 14 at h1
    omega
   rcases h1 with rfl | rfl | rfl | rfl | rfl | rfl | rfl | rfl | rfl | rfl | rfl | rfl | rfl | rfl
   ·
    obtain rfl : l0 = false := (AnyOrder.mem_ready hi).2.1
    clear hi
    refine AnyOrder.wpOp_go rfl (by rfl) ?_
    go_wp2_with fail
    exact ⟨true, l1, l2, l3, l4, l5, l6, l7, l8, l9, l10, l11, l12, l13, g, vv, rfl, rfl, HF⟩
   ·
    obtain rfl : l1 = false := (AnyOrder.mem_ready hi).2.1
    clear hi
    refine AnyOrder.wpOp_go rfl (by rfl) ?_
    go_wp2_with fail
    exact ⟨l0, true, l2, l3, l4, l5, l6, l7, l8, l9, l10, l11, l12, l13, g, vv, rfl, rfl, HF⟩
   ·
    obtain rfl : l2 = false := (AnyOrder.mem_ready hi).2.1
    obtain rfl : l1 = true := AnyOrder.dep (q := 0) hi rfl rfl rfl
    clear hi
    simp only [sel_true, selv_true] at hK ⊢
    refine AnyOrder.wpOp_go rfl (by rfl) ?_
    go_wp2_with fail
    exact ⟨l0, true, true, l3, l4, l5, l6, l7, l8, l9, l10, l11, l12, l13, g, vv, rfl, rfl, HF⟩
   ·
    obtain rfl : l3 = false := (AnyOrder.mem_ready hi).2.1
    obtain rfl : l2 = true := AnyOrder.dep (q := 0) hi rfl rfl rfl
    clear hi
    simp only [sel_true, selv_true] at hK ⊢
    refine AnyOrder.wpOp_go rfl (by rfl) ?_
    go_wp2_with fail
    exact ⟨l0, l1, true, true, l4, l5, l6, l7, l8, l9, l10, l11, l12, l13, g, vv, rfl, rfl, HF⟩
   ·
    obtain rfl : l4 = false := (AnyOrder.mem_ready hi).2.1
    obtain rfl : l3 = true := AnyOrder.dep (q := 0) hi rfl rfl rfl
    clear hi
    simp only [sel_true, selv_true] at hK ⊢
    obtain ⟨rfl, rfl⟩ := HF.out.no (.inl rfl)
    simp only [sel_false] at hK ⊢
    have hbw := HF.out.pre rfl
    have hm1 : V.cell? ⟨mp, 1, none⟩ = _ := (blk_cell (blk_keep HM.out.map hbw) 1).trans rfl
    refine AnyOrder.wpOp_go rfl (by rfl) ?_
    go_wp2_with fail
    exact ⟨l0, l1, l2, true, true, l5, l6, l7, l8, l9, false, l11, l12, false, g, vv, rfl, rfl, ⟨⟨HF.out.ord8, HF.out.ord9, fun h => (by cases h), fun h => (by cases h), HF.out.pre, HF.out.ent, fun h => (by cases h), fun h => (by cases h)⟩⟩⟩
   ·
    obtain rfl : l5 = false := (AnyOrder.mem_ready hi).2.1
    clear hi
    refine AnyOrder.wpOp_go rfl (by rfl) ?_
    go_wp2_with fail
    exact ⟨l0, l1, l2, l3, l4, true, l6, l7, l8, l9, l10, l11, l12, l13, g, vv, rfl, rfl, HF⟩
   ·
    obtain rfl : l6 = false := (AnyOrder.mem_ready hi).2.1
    clear hi
    obtain ⟨rfl, rfl⟩ := HF.out.no (.inr (.inl rfl))
    simp only [sel_false] at hK ⊢
    have hbw := HF.out.pre rfl
    have hk0 : V.cell? ⟨w.heap.size, 0, none⟩ = _ := (blk_cell (blk_keep HK.out hbw) 0).trans rfl
    have hk1 : V.cell? ⟨w.heap.size, 1, none⟩ = _ := (blk_cell (blk_keep HK.out hbw) 1).trans rfl
    refine AnyOrder.wpOp_go rfl (by rfl) ?_
    go_wp2_with fail
    exact ⟨l0, l1, l2, l3, l4, l5, true, l7, l8, l9, false, l11, l12, false, g, vv, rfl, rfl, ⟨⟨fun _ => rfl, fun _ => rfl, fun h => (by cases h), fun h => (by cases h), HF.out.pre, HF.out.ent, fun h => (by cases h), fun h => (by cases h)⟩⟩⟩
   ·
    obtain rfl : l7 = false := (AnyOrder.mem_ready hi).2.1
    clear hi
    refine AnyOrder.wpOp_go rfl (by rfl) ?_
    go_wp2_with fail
    exact ⟨l0, l1, l2, l3, l4, l5, l6, true, l8, l9, l10, l11, l12, l13, g, vv, rfl, rfl, HF⟩
   ·
    obtain rfl : l8 = false := (AnyOrder.mem_ready hi).2.1
    obtain rfl : l6 = true := AnyOrder.dep (q := 0) hi rfl rfl rfl
    obtain rfl : l7 = true := AnyOrder.dep (q := 1) hi rfl rfl rfl
    clear hi
    simp only [sel_true, selv_true] at hK ⊢
    refine AnyOrder.wpOp_go rfl (by rfl) ?_
    go_wp2_with fail
    exact ⟨l0, l1, l2, l3, l4, l5, true, true, true, l9, l10, l11, l12, l13, g, vv, rfl, rfl, ⟨⟨fun _ => rfl, HF.out.ord9, HF.out.ord10, HF.out.ord13, HF.out.pre, HF.out.ent, HF.out.mid, HF.out.fin⟩⟩⟩
   ·
    obtain rfl : l9 = false := (AnyOrder.mem_ready hi).2.1
    obtain rfl : l8 = true := AnyOrder.dep (q := 0) hi rfl rfl rfl
    clear hi
    simp only [sel_true, selv_true] at hK ⊢
    obtain ⟨rfl, rfl⟩ := HF.out.no (.inr (.inr rfl))
    simp only [sel_false] at hK ⊢
    refine AnyOrder.wpOp_go rfl (by rfl) ?_
    go_wp2_with fail
    exact ⟨l0, l1, l2, l3, l4, l5, l6, l7, true, true, false, l11, l12, false, V.heap.size, vv, rfl, rfl, ⟨⟨HF.out.ord8, fun _ => HF.out.ord8 rfl, fun h => (by cases h), fun h => (by cases h), fun _ => below_more (HF.out.pre rfl) ((Below.refl _ V).alloc (Nat.le_refl _) _), fun _ _ => ⟨(HF.out.pre rfl).size, blk_new _ _⟩, fun h => (by cases h), fun h => (by cases h)⟩⟩⟩
   ·
    obtain rfl : l10 = false := (AnyOrder.mem_ready hi).2.1
    obtain rfl : l4 = true := AnyOrder.dep (q := 0) hi rfl rfl rfl
    obtain rfl : l5 = true := AnyOrder.dep (q := 1) hi rfl rfl rfl
    obtain rfl : l9 = true := AnyOrder.dep (q := 2) hi rfl rfl rfl
    clear hi
    simp only [sel_true, selv_true] at hK ⊢
    obtain rfl : l13 = false := by cases l13 with | false => rfl | true => cases HF.out.ord13 rfl
    refine AnyOrder.wpOp_go rfl (by rfl) ?_
    go_wp2_with fail
    refine (set_insert HM.out HHF.out HQ.out rfl HW1.out (HF.out.pre rfl) (HF.out.ent rfl rfl)).mono ?_
    rintro e V' ⟨v2, rfl, hmid⟩
    exact hK _ _ ⟨l0, l1, l2, l3, true, true, l6, l7, l8, true, true, l11, l12, false, g, v2, rfl, rfl, ⟨⟨HF.out.ord8, HF.out.ord9, fun _ => ⟨rfl, HF.out.ord9 rfl, rfl⟩, fun h => (by cases h), fun h => (by cases h), fun _ h => (by cases h), fun _ _ => hmid, fun h => (by cases h)⟩⟩⟩
   ·
    obtain rfl : l11 = false := (AnyOrder.mem_ready hi).2.1
    obtain rfl : l0 = true := AnyOrder.dep (q := 0) hi rfl rfl rfl
    obtain rfl : l1 = true := AnyOrder.dep (q := 2) hi rfl rfl rfl
    obtain rfl : l2 = true := AnyOrder.dep (q := 3) hi rfl rfl rfl
    obtain rfl : l3 = true := AnyOrder.dep (q := 4) hi rfl rfl rfl
    obtain rfl : l4 = true := AnyOrder.dep (q := 5) hi rfl rfl rfl
    obtain rfl : l5 = true := AnyOrder.dep (q := 6) hi rfl rfl rfl
    obtain rfl : l6 = true := AnyOrder.dep (q := 7) hi rfl rfl rfl
    obtain rfl : l7 = true := AnyOrder.dep (q := 8) hi rfl rfl rfl
    obtain rfl : l8 = true := AnyOrder.dep (q := 9) hi rfl rfl rfl
    obtain rfl : l9 = true := AnyOrder.dep (q := 10) hi rfl rfl rfl
    obtain rfl : l10 = true := AnyOrder.dep (q := 11) hi rfl rfl rfl
    clear hi
    simp only [sel_true, selv_true] at hK ⊢
    refine AnyOrder.wpOp_go rfl (by rfl) ?_
    go_wp2_with fail
    exact ⟨true, true, true, true, true, true, true, true, true, true, true, true, l12, l13, g, vv, rfl, rfl, HF⟩
   ·
    obtain rfl : l12 = false := (AnyOrder.mem_ready hi).2.1
    obtain rfl : l11 = true := AnyOrder.dep (q := 0) hi rfl rfl rfl
    obtain rfl : l0 = true := AnyOrder.dep (q := 1) hi rfl rfl rfl
    obtain rfl : l1 = true := AnyOrder.dep (q := 2) hi rfl rfl rfl
    obtain rfl : l2 = true := AnyOrder.dep (q := 3) hi rfl rfl rfl
    obtain rfl : l3 = true := AnyOrder.dep (q := 4) hi rfl rfl rfl
    obtain rfl : l4 = true := AnyOrder.dep (q := 5) hi rfl rfl rfl
    obtain rfl : l5 = true := AnyOrder.dep (q := 6) hi rfl rfl rfl
    obtain rfl : l6 = true := AnyOrder.dep (q := 7) hi rfl rfl rfl
    obtain rfl : l7 = true := AnyOrder.dep (q := 8) hi rfl rfl rfl
    obtain rfl : l8 = true := AnyOrder.dep (q := 9) hi rfl rfl rfl
    obtain rfl : l9 = true := AnyOrder.dep (q := 10) hi rfl rfl rfl
    obtain rfl : l10 = true := AnyOrder.dep (q := 11) hi rfl rfl rfl
    clear hi
    simp only [sel_true, selv_true] at hK ⊢
    refine AnyOrder.wpOp_go rfl (by rfl) ?_
    go_wp2_with fail
    exact ⟨true, true, true, true, true, true, true, true, true, true, true, true, true, l13, g, vv, rfl, rfl, HF⟩
   ·
    obtain rfl : l13 = false := (AnyOrder.mem_ready hi).2.1
    obtain rfl : l12 = true := AnyOrder.dep (q := 0) hi rfl rfl rfl
    obtain rfl : l10 = true := AnyOrder.dep (q := 1) hi rfl rfl rfl
    obtain rfl : l0 = true := AnyOrder.dep (q := 3) hi rfl rfl rfl
    obtain rfl : l1 = true := AnyOrder.dep (q := 4) hi rfl rfl rfl
    obtain rfl : l2 = true := AnyOrder.dep (q := 5) hi rfl rfl rfl
    obtain rfl : l3 = true := AnyOrder.dep (q := 6) hi rfl rfl rfl
    obtain rfl : l4 = true := AnyOrder.dep (q := 7) hi rfl rfl rfl
    obtain rfl : l5 = true := AnyOrder.dep (q := 8) hi rfl rfl rfl
    obtain rfl : l6 = true := AnyOrder.dep (q := 9) hi rfl rfl rfl
    obtain rfl : l7 = true := AnyOrder.dep (q := 10) hi rfl rfl rfl
    obtain rfl : l8 = true := AnyOrder.dep (q := 11) hi rfl rfl rfl
    obtain rfl : l9 = true := AnyOrder.dep (q := 12) hi rfl rfl rfl
    clear hi
    simp only [sel_true, selv_true] at hK ⊢
    obtain ⟨hmr, hmm, hmt⟩ := HF.out.mid rfl rfl
    obtain ⟨Av, cv, rfl⟩ := ownsRow_slice hmr
    have hmap := hmm.trans HM.out.map
    have hm1 : V.cell? ⟨mp, 1, none⟩ = _ := (blk_cell hmap 1).trans rfl
    have hf1 := blk_frozen hmap 1
    have HF2 := Aside0.mk (set_store hmr hmap hmt)
    clear hmr hmm hmt hmap
    refine AnyOrder.wpOp_go rfl (by rfl) ?_
    go_wp2_with fail
    exact ⟨true, true, true, true, true, true, true, true, true, true, true, l11, true, true, g, (.slice Av (ks.length + 1) cv), rfl, rfl, ⟨⟨fun _ => rfl, fun _ => rfl, fun _ => ⟨rfl, rfl, rfl⟩, fun _ => rfl, fun h => (by cases h), fun _ h => (by cases h), fun _ h => (by cases h), fun _ => HF2.out⟩⟩⟩
  case last =>
   rintro L ac V ⟨l0, l1, l2, l3, l4, l5, l6, l7, l8, l9, l10, l11, l12, l13, g, vv, rfl, rfl, HF⟩ hr
   have hall := AnyOrder.all_listed rfl (by kernel_rfl) hr
   clear hr
   obtain rfl : l0 = true := hall 0 (by decide)
   obtain rfl : l1 = true := hall 1 (by decide)
   obtain rfl : l2 = true := hall 2 (by decide)
   obtain rfl : l3 = true := hall 3 (by decide)
   obtain rfl : l4 = true := hall 4 (by decide)
   obtain rfl : l5 = true := hall 5 (by decide)
   obtain rfl : l6 = true := hall 6 (by decide)
   obtain rfl : l7 = true := hall 7 (by decide)
   obtain rfl : l8 = true := hall 8 (by decide)
   obtain rfl : l9 = true := hall 9 (by decide)
   obtain rfl : l10 = true := hall 10 (by decide)
   obtain rfl : l11 = true := hall 11 (by decide)
   obtain rfl : l12 = true := hall 12 (by decide)
   obtain rfl : l13 = true := hall 13 (by decide)
   clear hall
   simp only [sel_true, selv_true]
   have HEND : Aside0 (MapSt base V mp vv (setKs ks d) (setVs ks vs d (.slice Au nu cu)) ∧ Tch (MapBl mp v) w V) := ⟨by
    obtain ⟨hm, hr, ht⟩ := HF.out.fin rfl
    have hl : (setVs ks vs d (.slice Au nu cu)).length = (setKs ks d).length := by
     rw [setKs_len HHF.out]
     unfold setVs
     rw [if_neg (by rw [HHF.out]; decide), List.length_append, List.length_cons, List.length_take, List.length_drop, HM.out.len]
     have := posK_le ks d
     omega
    refine ⟨⟨hm, HM.out.own, by rw [setKs_len HHF.out]; exact hr, hl, by rw [setKs_len HHF.out]; exact HN.out, ?_, setKs_inc HM.out.inc⟩, (Tch.below HB.out).trans ht (fun i _ e => e)⟩
    intro x hx
    unfold setVs at hx
    rw [if_neg (by rw [HHF.out]; decide)] at hx
    rcases List.mem_append.1 hx with hx | hx
    ·
     exact HM.out.one x (List.mem_of_mem_take hx)
    ·
     rcases List.mem_cons.1 hx with rfl | hx
     ·
      rfl
     ·
      exact HM.out.one x (List.mem_of_mem_drop hx)⟩
   go_wp2
   refine bodyPost_ret (results_tmp2 rfl _ _ _) rfl ?_
   exact ⟨_, _, rfl, HEND.out⟩
theorem hasK_iff {ks : List Dot} (h : incB ks = true) (d : Dot) : hasK ks d = true ↔ d ∈ ks := by
 unfold hasK posK
 rw [decide_eq_true_eq]
 induction ks with
 | nil => simp
 | cons y ks ih =>
  obtain ⟨h1, h2⟩ := incB_tail h
  rw [List.takeWhile_cons]
  by_cases hy : dotLt y d = true
  ·
   rw [if_pos hy, List.length_cons, List.getElem?_cons_succ, ih h1, List.mem_cons]
   constructor
   ·
    exact .inr
   ·
    rintro (rfl | h)
    ·
     rw [dotLt_irrefl] at hy; cases hy
    ·
     exact h
  ·
   rw [if_neg hy, List.length_nil, List.getElem?_cons_zero, List.mem_cons]
   constructor
   ·
    intro e; exact .inl (Option.some.inj e).symm
   ·
    rintro (rfl | h)
    ·
     rfl
    ·
     exact absurd (h2 d h) hy
theorem incB_nodup {ks : List Dot} (h : incB ks = true) : ks.Nodup := by
 induction ks with
 | nil => exact List.nodup_nil
 | cons y ks ih =>
  obtain ⟨h1, h2⟩ := incB_tail h
  exact List.nodup_cons.2 ⟨fun hm => (by have := h2 y hm; rw [dotLt_irrefl] at this; cases this), ih h1⟩
/-- How a key is set. -/
theorem set_split {ks : List Dot} {vs : List Value} (hi : incB ks = true) (hl : vs.length = ks.length) (d : Dot) (u : Value) :
  ∃ K1 K2 V1 V2, V1.length = K1.length ∧ setKs ks d = K1 ++ d :: K2 ∧ setVs ks vs d u = V1 ++ u :: V2 ∧ d ∉ K1 ∧ d ∉ K2 ∧
   ((d ∈ ks ∧ ks = K1 ++ d :: K2 ∧ vs = V1 ++ getV ks vs d :: V2) ∨ (d ∉ ks ∧ ks = K1 ++ K2 ∧ vs = V1 ++ V2 ∧ getV ks vs d = .slice none 0 0)) := by
 by_cases hh : hasK ks d = true
 ·
  have hq := hasK_lt hh
  have hk : ks[posK ks d]? = some d := of_decide_eq_true hh
  have hkd : ks = ks.take (posK ks d) ++ d :: ks.drop (posK ks d + 1) := by
   have := (List.getElem?_eq_some_iff.1 hk).2
   conv => lhs; rw [← List.take_append_drop (posK ks d) ks, List.drop_eq_getElem_cons hq, this]
  have hv : vs = vs.take (posK ks d) ++ getV ks vs d :: vs.drop (posK ks d + 1) := by
   have hqv : posK ks d < vs.length := by omega
   unfold getV
   rw [if_pos hh, List.getElem?_eq_getElem hqv]
   conv => lhs; rw [← List.take_append_drop (posK ks d) vs, List.drop_eq_getElem_cons hqv]
   rfl
  have hnd := incB_nodup hi
  rw [hkd] at hnd
  obtain ⟨_, hn2, hn3⟩ := List.nodup_append.1 hnd
  refine ⟨_, _, _, _, ?_, ?_, ?_, ?_, ?_, .inl ⟨(hasK_iff hi d).1 hh, hkd, hv⟩⟩
  ·
   rw [List.length_take, List.length_take, hl]
  ·
   unfold setKs; rw [if_pos hh]; exact hkd
  ·
   unfold setVs; rw [if_pos hh, List.set_eq_take_append_cons_drop, if_pos (by omega)]
  ·
   exact fun hm => hn3 d hm d List.mem_cons_self rfl
  ·
   exact (List.nodup_cons.1 hn2).1
 ·
  have hm : d ∉ ks := fun h => hh ((hasK_iff hi d).2 h)
  refine ⟨ks.take (posK ks d), ks.drop (posK ks d), vs.take (posK ks d), vs.drop (posK ks d), ?_, ?_, ?_, fun h => hm (List.mem_of_mem_take h), fun h => hm (List.mem_of_mem_drop h), .inr ⟨hm, (List.take_append_drop _ _).symm, (List.take_append_drop _ _).symm, ?_⟩⟩
  ·
   rw [List.length_take, List.length_take, hl]
  ·
   unfold setKs; rw [if_neg hh]
  ·
   unfold setVs; rw [if_neg hh]
  ·
   unfold getV; rw [if_neg hh]
/-- Two values don't share a block. -/
def Sep (a b : Value) : Prop := ∀ g, a.ownBlock = some g → b.ownBlock ≠ some g
theorem Sep.symm {a b : Value} (h : Sep a b) : Sep b a := fun g hb ha => h g ha hb
abbrev RN (W : World) (base : Nat) (u : Value) (xs : List Node) : Prop := Kd.R k53 53 W base (fun _ => True) u xs
structure FamSt (base : Nat) (W : World) (mp : Nat) (v : Value) (ks : List Dot) (vs : List Value) (fam : Dot → List Node) : Prop where
 map : MapSt base W mp v ks vs
 rows : ∀ d u, (d, u) ∈ ks.zip vs → RN W base u (fam d)
 sep : vs.Pairwise Sep
 none : ∀ d, d ∉ ks → fam d = []
theorem RN.keep {W V : World} {base : Nat} {u : Value} {xs : List Node} (h : RN W base u xs) (hk : ∀ g, u.ownBlock = some g → V.heap[g]? = W.heap[g]?) : RN V base u xs := by
 have ho := cells_of_R h
 exact R_of_cells (ownsRow_keep ho hk) (fun _ _ => trivial)
theorem RN.block {W : World} {base : Nat} {u : Value} {xs : List Node} (h : RN W base u xs) {g : Nat} (hg : u.ownBlock = some g) : base ≤ g ∧ ∃ cur, W.heap[g]? = some (.cells cur 53 (0, 0)) := by
 rcases (cells_of_R h).2 with ⟨rfl, _⟩ | ⟨g', c, cur, rfl, hb, hcur, _⟩
 ·
  cases hg
 ·
  cases hg; exact ⟨hb, cur, hcur⟩
theorem RN.lt {W : World} {base : Nat} {u : Value} {xs : List Node} (h : RN W base u xs) {g : Nat} (hg : u.ownBlock = some g) : g < W.heap.size := by
 obtain ⟨_, cur, h1⟩ := h.block hg
 exact blk_lt h1
theorem MapSt.not_row {base : Nat} {W : World} {mp : Nat} {v : Value} {ks : List Dot} {vs : List Value} (h : MapSt base W mp v ks vs) {g : Nat} {cur : Array Value} (hg : W.heap[g]? = some (.cells cur 53 (0, 0))) : ¬ MapBl mp v g := by
 rintro (rfl | e)
 ·
  rw [h.map] at hg
  exact absurd (Obj.cells.inj (Option.some.inj hg)).2.1 (by decide)
 ·
  rcases h.row.2 with ⟨rfl, _⟩ | ⟨g', c, cur', rfl, _, hcur, _⟩
  ·
   cases e
  ·
   cases e
   rw [hcur] at hg
   exact absurd (Obj.cells.inj (Option.some.inj hg)).2.1 (by decide)
theorem FamSt.below {base : Nat} {W V : World} {mp : Nat} {v : Value} {ks : List Dot} {vs : List Value} {fam : Dot → List Node} (h : FamSt base W mp v ks vs fam) (hb : Below W.heap.size W V) : FamSt base V mp v ks vs fam :=
 ⟨h.map.below hb, fun d u hm => (h.rows d u hm).keep (fun g hg => hb.block g ((h.rows d u hm).lt hg)), h.sep, h.none⟩
theorem zip_mid {K1 K2 : List Dot} {V1 V2 : List Value} {d : Dot} {u : Value} (hl : V1.length = K1.length) : (K1 ++ d :: K2).zip (V1 ++ u :: V2) = K1.zip V1 ++ (d, u) :: K2.zip V2 := by
 rw [List.zip_append hl.symm]; rfl
theorem FamSt.getR {base : Nat} {W : World} {mp : Nat} {v : Value} {ks : List Dot} {vs : List Value} {fam : Dot → List Node} (h : FamSt base W mp v ks vs fam) (d : Dot) : RN W base (getV ks vs d) (fam d) := by
 obtain ⟨K1, K2, V1, V2, hl, _, _, _, _, (⟨_, hk, hv⟩ | ⟨hm, _, _, hg⟩)⟩ := set_split h.map.inc h.map.len d undef
 ·
  refine h.rows d _ ?_
  have : (d, getV ks vs d) ∈ (K1 ++ d :: K2).zip (V1 ++ getV ks vs d :: V2) := by rw [zip_mid hl]; simp
  rw [← hk, ← hv] at this
  exact this
 ·
  rw [hg, h.none d hm]
  exact Kd.R_nil _ _ _ _ _
/-- One row is put in the place of a key's: the others are as they were. -/
theorem FamSt.set {base : Nat} {W V : World} {mp : Nat} {v v' : Value} {ks : List Dot} {vs : List Value} {fam : Dot → List Node} (h : FamSt base W mp v ks vs fam) {d : Dot} {u : Value} {ys : List Node}
  (hm : MapSt base V mp v' (setKs ks d) (setVs ks vs d u)) (hu : RN V base u ys) (ht : ∀ g, g < W.heap.size → (getV ks vs d).ownBlock ≠ some g → (∃ cur, W.heap[g]? = some (.cells cur 53 (0, 0))) → V.heap[g]? = W.heap[g]?)
  (hub : u.ownBlock = (getV ks vs d).ownBlock ∨ ∃ b, u.ownBlock = some b ∧ W.heap.size ≤ b) : FamSt base V mp v' (setKs ks d) (setVs ks vs d u) (fun e => if e = d then ys else fam e) := by
 obtain ⟨K1, K2, V1, V2, hl, e1, e2, hn1, hn2, hc⟩ := set_split h.map.inc h.map.len d u
 have hrest : ∀ e a, ((e, a) ∈ K1.zip V1 ∨ (e, a) ∈ K2.zip V2) → (e, a) ∈ ks.zip vs ∧ e ≠ d ∧ Sep (getV ks vs d) a := by
  intro e a hea
  have hed : e ≠ d := by
   rintro rfl
   rcases hea with hea | hea
   ·
    exact hn1 (List.of_mem_zip hea).1
   ·
    exact hn2 (List.of_mem_zip hea).1
  rcases hc with ⟨_, hk, hv⟩ | ⟨_, hk, hv, hg⟩
  ·
   refine ⟨?_, hed, ?_⟩
   ·
    rw [hk, hv, zip_mid hl]
    rcases hea with hea | hea
    ·
     exact List.mem_append_left _ hea
    ·
     exact List.mem_append_right _ (List.mem_cons_of_mem _ hea)
   ·
    have hp := h.sep
    rw [hv] at hp
    obtain ⟨_, hp2, hp3⟩ := List.pairwise_append.1 hp
    rcases hea with hea | hea
    ·
     exact (hp3 a (List.of_mem_zip hea).2 _ List.mem_cons_self).symm
    ·
     exact (List.pairwise_cons.1 hp2).1 a (List.of_mem_zip hea).2
  ·
   refine ⟨?_, hed, ?_⟩
   ·
    rw [hk, hv, List.zip_append hl.symm]
    rcases hea with hea | hea
    ·
     exact List.mem_append_left _ hea
    ·
     exact List.mem_append_right _ hea
   ·
    intro g hgg; rw [hg] at hgg; cases hgg
 have hkeep : ∀ e a, ((e, a) ∈ K1.zip V1 ∨ (e, a) ∈ K2.zip V2) → RN V base a (fam e) ∧ Sep u a := by
  intro e a hea
  obtain ⟨h1, _, h3⟩ := hrest e a hea
  have hr := h.rows e a h1
  refine ⟨hr.keep fun g hg => ht g (hr.lt hg) (fun e => h3 g e hg) (hr.block hg).2, fun g hg ha => ?_⟩
  rcases hub with e' | ⟨b, hb, hbb⟩
  ·
   exact h3 g (e' ▸ hg) ha
  ·
   rw [hb] at hg
   have := hr.lt ha
   have := Option.some.inj hg
   omega
 have hzip : ∀ (x : Value) (K : List Dot) (X : List Value), X.length = K.length → x ∈ X → ∃ e, (e, x) ∈ K.zip X := by
  intro x K X hl hx
  obtain ⟨i, hi⟩ := List.getElem?_of_mem hx
  have hil := (List.getElem?_eq_some_iff.1 hi).1
  exact ⟨K[i]'(by omega), List.mem_of_getElem? (i := i) (by rw [List.getElem?_zip_eq_some]; exact ⟨List.getElem?_eq_getElem _, hi⟩)⟩
 have hl2 : V2.length = K2.length := by
  have := hm.len
  rw [e1, e2] at this
  simp only [List.length_append, List.length_cons] at this
  omega
 have hsepV : V1.Pairwise Sep ∧ V2.Pairwise Sep ∧ ∀ a ∈ V1, ∀ b ∈ V2, Sep a b := by
  have hp := h.sep
  rcases hc with ⟨_, _, hv⟩ | ⟨_, _, hv, _⟩
  ·
   rw [hv] at hp
   obtain ⟨p1, p2, p3⟩ := List.pairwise_append.1 hp
   exact ⟨p1, (List.pairwise_cons.1 p2).2, fun a ha b hb => p3 a ha b (List.mem_cons_of_mem _ hb)⟩
  ·
   rw [hv] at hp
   obtain ⟨p1, p2, p3⟩ := List.pairwise_append.1 hp
   exact ⟨p1, p2, p3⟩
 refine ⟨hm, ?_, ?_, ?_⟩
 ·
  intro e a hea
  rw [e1, e2, zip_mid hl] at hea
  rcases List.mem_append.1 hea with hea | hea
  ·
   have := hkeep e a (.inl hea)
   rw [if_neg (hrest e a (.inl hea)).2.1]; exact this.1
  ·
   rcases List.mem_cons.1 hea with he | hea
   ·
    cases he; rw [if_pos rfl]; exact hu
   ·
    rw [if_neg (hrest e a (.inr hea)).2.1]; exact (hkeep e a (.inr hea)).1
 ·
  rw [e2]
  refine List.pairwise_append.2 ⟨hsepV.1, List.pairwise_cons.2 ⟨fun b hb => ?_, hsepV.2.1⟩, fun a ha b hb => ?_⟩
  ·
   obtain ⟨e, he⟩ := hzip b K2 V2 hl2 hb
   exact (hkeep e b (.inr he)).2
  ·
   rcases List.mem_cons.1 hb with rfl | hb
   ·
    obtain ⟨e, he⟩ := hzip a K1 V1 hl ha
    exact (hkeep e a (.inl he)).2.symm
   ·
    exact hsepV.2.2 a ha b hb
 ·
  intro e he
  rw [e1] at he
  have hed : e ≠ d := fun h => he (by rw [h]; simp)
  rw [if_neg hed]
  refine h.none e fun hek => he ?_
  rcases hc with ⟨_, hk, _⟩ | ⟨_, hk, _⟩
  ·
   rwa [hk] at hek
  ·
   rw [hk] at hek
   rcases List.mem_append.1 hek with hek | hek
   ·
    exact List.mem_append_left _ hek
   ·
    exact List.mem_append_right _ (List.mem_cons_of_mem _ hek)
end Go.Proofs.YtmbndijbpgobeaaGreat.PWalk
end
section
namespace Go.Proofs.YtmbndijbpgobeaaGreat.PWalk
open Go.RowKit Go.Proofs.YtmbndijbpgobeaaGreatW.PrintWords Go.Proofs.YtmbndijbpgobeaaGreatW.PrintLast Go.Proofs.YtmbndijbpgobeaaGreatW.PrintMore
set_option linter.unusedVariables false
set_option linter.unusedSimpArgs false
open Go.Shelf
attribute [local go_sem] Oper.semAt_some
def idxN : List Node → Nat → Dot → Option Nat
 | [], _, _ => none
 | x :: l, n, d => if d = x.f0 then some n else idxN l (n + 1) d
theorem idxN_lt (l : List Node) (n : Nat) (d : Dot) (k : Nat) (h : idxN l n d = some k) : n ≤ k ∧ k < n + l.length := by
 induction l generalizing n with
 | nil => cases h
 | cons x l ih =>
  rw [idxN] at h
  split at h
  ·
   cases h; simp
  ·
   have := ih _ h; simp; omega
def Inc (l : List Node) : Prop := l.Pairwise fun a b => dotLt a.f0 b.f0 = true
theorem inc_of {l : List Node} (h : incB (l.map (·.f0)) = true) : Inc l := by
 unfold Inc
 induction l with
 | nil => exact List.Pairwise.nil
 | cons x l ih =>
  cases l with
  | nil => exact List.pairwise_singleton _ _
  | cons y l =>
   simp only [List.map_cons, incB, Bool.and_eq_true] at h
   have hr := ih (by simpa using h.2)
   refine List.pairwise_cons.2 ⟨fun z hz => ?_, hr⟩
   rcases List.mem_cons.1 hz with rfl | hz
   ·
    exact h.1
   ·
    exact dotLt_trans h.1 ((List.pairwise_cons.1 hr).1 z hz)
theorem inc_unique {l : List Node} (h : Inc l) {i j : Nat} {x y : Node} (hx : l[i]? = some x) (hy : l[j]? = some y) (e : x.f0 = y.f0) : i = j := by
 obtain ⟨hi, rfl⟩ := List.getElem?_eq_some_iff.1 hx
 obtain ⟨hj, rfl⟩ := List.getElem?_eq_some_iff.1 hy
 rcases Nat.lt_trichotomy i j with hij | hij | hij
 ·
  have := List.pairwise_iff_getElem.1 h i j hi hj hij
  rw [e, dotLt_irrefl] at this; cases this
 ·
  exact hij
 ·
  have := List.pairwise_iff_getElem.1 h j i hj hi hij
  rw [e, dotLt_irrefl] at this; cases this
theorem idxN_some {l : List Node} {n : Nat} {d : Dot} {k : Nat} (h : idxN l n d = some k) : ∃ x, l[k - n]? = some x ∧ x.f0 = d := by
 induction l generalizing n with
 | nil => cases h
 | cons x l ih =>
  rw [idxN] at h
  split at h
  ·
   rename_i e
   cases h
   exact ⟨x, by simp, e.symm⟩
  ·
   obtain ⟨y, hy, e⟩ := ih h
   have := idxN_lt l _ _ k h
   exact ⟨y, by rw [show k - n = (k - (n + 1)) + 1 by omega]; simpa using hy, e⟩
theorem idxN_none {l : List Node} {n : Nat} {d : Dot} (h : idxN l n d = none) : ∀ x ∈ l, x.f0 ≠ d := by
 induction l generalizing n with
 | nil => intro x hx; cases hx
 | cons y l ih =>
  rw [idxN] at h
  split at h
  ·
   cases h
  ·
   rename_i hne
   intro x hx
   rcases List.mem_cons.1 hx with rfl | hx
   ·
    exact fun e => hne e.symm
   ·
    exact ih h x hx
def insB (x : Node) : List Node → List Node
 | [] => [x]
 | y :: r => if nodeLt y x then y :: insB x r else x :: y :: r
/-- The children of a dot, in order. -/
def kids (l : List Node) (d : Dot) : List Node := (l.filter fun x => decide (x.f1 = d)).foldl (fun o x => insB x o) []
theorem nodeLt_irrefl (a : Node) : nodeLt a a = false := by unfold nodeLt; rw [if_pos rfl, dotLt_irrefl]
theorem nodeLt_asymm {a b : Node} (h : nodeLt a b = true) : nodeLt b a = false := by
 unfold nodeLt dotLt at *
 split at h <;> split <;> simp only [decide_eq_true_eq, decide_eq_false_iff_not] at * <;> omega
theorem nodeLt_trans {a b c : Node} (h : nodeLt a b = true) (k : nodeLt b c = true) : nodeLt a c = true := by
 unfold nodeLt dotLt at *
 split at h <;> split at k <;> split <;> simp only [decide_eq_true_eq] at * <;> omega
theorem nodeLt_ntrans {a b c : Node} (h : nodeLt a b = false) (k : nodeLt b c = false) : nodeLt a c = false := by
 unfold nodeLt dotLt at *
 split at h <;> split at k <;> split <;> simp only [decide_eq_false_iff_not] at * <;> omega
theorem nodeLt_total {a b : Node} (h : nodeLt a b = false) (k : nodeLt b a = false) : a.f0 = b.f0 := by
 unfold nodeLt at *
 split at h
 ·
  rename_i e
  rw [if_pos e.symm] at k
  exact dotLt_total k h
 ·
  rename_i e
  rw [if_neg (fun h => e h.symm)] at k
  simp only [decide_eq_false_iff_not] at *
  omega
theorem insB_perm (x : Node) : ∀ l, (insB x l).Perm (x :: l)
 | [] => List.Perm.refl _
 | y :: r => by
  rw [insB]
  split
  ·
   exact ((insB_perm x r).cons y).trans (List.Perm.swap x y r)
  ·
   exact List.Perm.refl _
def SortedN (l : List Node) : Prop := l.Pairwise fun a b => nodeLt b a = false
theorem insB_sorted (x : Node) : ∀ l, SortedN l → SortedN (insB x l)
 | [], _ => List.pairwise_singleton _ _
 | y :: r, h => by
  rw [insB]
  obtain ⟨h1, h2⟩ := List.pairwise_cons.1 h
  split
  ·
   rename_i e
   refine List.pairwise_cons.2 ⟨fun z hz => ?_, insB_sorted x r h2⟩
   rcases List.mem_cons.1 ((insB_perm x r).mem_iff.1 hz) with rfl | hz
   ·
    exact nodeLt_asymm e
   ·
    exact h1 z hz
  ·
   rename_i e
   refine List.pairwise_cons.2 ⟨fun z hz => ?_, h⟩
   rcases List.mem_cons.1 hz with rfl | hz
   ·
    simpa using e
   ·
    exact nodeLt_ntrans (h1 z hz) (by simpa using e)
theorem foldB_perm (f : List Node) : ∀ o, (f.foldl (fun o x => insB x o) o).Perm (f ++ o) := by
 induction f with
 | nil => intro o; exact List.Perm.refl _
 | cons x f ih =>
  intro o
  rw [List.foldl_cons]
  refine (ih _).trans ?_
  exact ((insB_perm x o).append_left f).trans List.perm_middle
theorem foldB_sorted (f : List Node) : ∀ o, SortedN o → SortedN (f.foldl (fun o x => insB x o) o) := by
 induction f with
 | nil => intro o h; exact h
 | cons x f ih => intro o h; rw [List.foldl_cons]; exact ih _ (insB_sorted x o h)
theorem kids_perm (l : List Node) (d : Dot) : (kids l d).Perm (l.filter fun x => decide (x.f1 = d)) := by
 have := foldB_perm (l.filter fun x => decide (x.f1 = d)) []
 rwa [List.append_nil] at this
theorem kids_sorted (l : List Node) (d : Dot) : SortedN (kids l d) := foldB_sorted _ _ List.Pairwise.nil
theorem mem_kids {l : List Node} {d : Dot} {x : Node} : x ∈ kids l d ↔ x ∈ l ∧ x.f1 = d := by
 rw [(kids_perm l d).mem_iff, List.mem_filter]; simp
/-- One list alone is sorted, of those that have the same nodes, where no two have one dot. -/
theorem sorted_unique : ∀ {a b : List Node}, a.Perm b → SortedN a → SortedN b → (∀ x ∈ a, ∀ y ∈ a, x.f0 = y.f0 → x = y) → a = b
 | [], b, hp, _, _, _ => by rw [List.nil_perm.1 hp]
 | x :: a, [], hp, _, _, _ => absurd (List.perm_nil.1 hp) (by simp)
 | x :: a, y :: b, hp, ha, hb, hu => by
  obtain ⟨ha1, ha2⟩ := List.pairwise_cons.1 ha
  obtain ⟨hb1, hb2⟩ := List.pairwise_cons.1 hb
  have hxy : x = y := by
   refine Classical.byContradiction fun hne => ?_
   have hx : x ∈ b := (List.mem_cons.1 (hp.mem_iff.1 List.mem_cons_self)).resolve_left hne
   have hy : y ∈ a := (List.mem_cons.1 (hp.mem_iff.2 List.mem_cons_self)).resolve_left (fun e => hne e.symm)
   exact hne (hu x List.mem_cons_self y (List.mem_cons_of_mem _ hy) (nodeLt_total (hb1 x hx) (ha1 y hy)))
  subst hxy
  rw [sorted_unique (List.Perm.cons_inv hp) ha2 hb2 (fun u hu' v hv => hu u (List.mem_cons_of_mem _ hu') v (List.mem_cons_of_mem _ hv))]
/-- All below a dot, with their depths; n: at most so deep. -/
def belowN (l : List Node) : Nat → Nat → Dot → List (Nat × Node)
 | 0, _, _ => []
 | n + 1, dep, d => (kids l d).flatMap fun x => (dep, x) :: belowN l n (dep + 1) x.f0
/-- Below a dot there are at most so many generations. -/
def Low (l : List Node) : Nat → Dot → Prop
 | 0, d => kids l d = []
 | n + 1, d => ∀ x ∈ kids l d, Low l n x.f0
theorem Low.succ {l : List Node} : ∀ {n : Nat} {d : Dot}, Low l n d → Low l (n + 1) d
 | 0, d, h => fun x hx => by rw [show kids l d = [] from h] at hx; cases hx
 | n + 1, d, h => fun x hx => Low.succ (h x hx)
theorem Low.mono {l : List Node} {n m : Nat} {d : Dot} (h : Low l n d) (hm : n ≤ m) : Low l m d := by
 induction hm with
 | refl => exact h
 | step _ ih => exact ih.succ
theorem flatMap_same {α β : Type} {f g : α → List β} : ∀ {l : List α}, (∀ x ∈ l, f x = g x) → l.flatMap f = l.flatMap g
 | [], _ => rfl
 | x :: l, h => by rw [List.flatMap_cons, List.flatMap_cons, h x List.mem_cons_self, flatMap_same fun y hy => h y (List.mem_cons_of_mem _ hy)]
theorem belowN_succ {l : List Node} : ∀ {n : Nat} {d : Dot} (dep : Nat), Low l n d → belowN l (n + 1) dep d = belowN l (n + 2) dep d
 | 0, d, dep, h => by rw [belowN, belowN, show kids l d = [] from h]; rfl
 | n + 1, d, dep, h => by
  rw [belowN, belowN]
  exact flatMap_same fun x hx => by rw [belowN_succ (dep + 1) (h x hx)]
theorem belowN_any {l : List Node} {n m : Nat} {d : Dot} (dep : Nat) (h : Low l n d) (hm : n < m) : belowN l m dep d = belowN l (n + 1) dep d := by
 obtain ⟨q, rfl⟩ : ∃ q, m = n + 1 + q := ⟨m - (n + 1), by omega⟩
 induction q with
 | zero => rfl
 | succ q ih => rw [← ih (by omega), show n + 1 + (q + 1) = (n + q) + 2 by omega, ← belowN_succ dep (h.mono (by omega)), show n + q + 1 = n + 1 + q by omega]
/-- The way from the root to a dot, the last node first. -/
inductive Path (l : List Node) : Dot → List Node → Prop
 | root : Path l ⟨0, 0⟩ []
 | step (d : Dot) (U : List Node) (x : Node) : Path l d U → x ∈ l → x.f1 = d → Path l x.f0 (x :: U)
structure Store (l : List Node) : Prop where
 ok : ∀ x ∈ l, nodeOk x = true
 inc : Inc l
theorem store_of {l : List Node} (h : storeOk l = true) : Store l := by
 unfold storeOk at h
 rw [Bool.and_eq_true, List.all_eq_true] at h
 exact ⟨h.1, inc_of h.2⟩
theorem inc_eq {l : List Node} (h : Inc l) {x y : Node} (hx : x ∈ l) (hy : y ∈ l) (e : x.f0 = y.f0) : x = y := by
 obtain ⟨i, hi⟩ := List.getElem?_of_mem hx
 obtain ⟨j, hj⟩ := List.getElem?_of_mem hy
 obtain rfl := inc_unique h hi hj e
 rw [hi] at hj; exact Option.some.inj hj
theorem Store.not_root {l : List Node} (h : Store l) {x : Node} (hx : x ∈ l) : x.f0 ≠ ⟨0, 0⟩ := fun e => by
 have := h.ok x hx
 unfold nodeOk dotOk at this
 simp only [decide_eq_true_eq] at this
 rw [e] at this
 simp at this
theorem Path.unique {l : List Node} (hs : Store l) {d : Dot} {U : List Node} (h : Path l d U) : ∀ {V : List Node}, Path l d V → U = V := by
 induction h with
 | root =>
  intro V k
  generalize hd : (⟨0, 0⟩ : Dot) = d at k
  cases k with
  | root => rfl
  | step d V x k hx e => exact absurd hd.symm (hs.not_root hx)
 | step d U x _ hx e ih =>
  intro V k
  generalize hd : x.f0 = d' at k
  cases k with
  | root => exact absurd hd (hs.not_root hx)
  | step d2 V y k hy e2 =>
   obtain rfl := inc_eq hs.inc hx hy hd
   subst e e2
   rw [ih k]
theorem Path.mem {l : List Node} {d : Dot} {U : List Node} (h : Path l d U) : ∀ x ∈ U, x ∈ l := by
 induction h with
 | root => intro x hx; cases hx
 | step d U x _ hx e ih =>
  intro y hy
  rcases List.mem_cons.1 hy with rfl | hy
  ·
   exact hx
  ·
   exact ih y hy
theorem Path.part {l : List Node} {d : Dot} {U : List Node} (h : Path l d U) : ∀ x ∈ U, ∃ A B, U = A ++ x :: B ∧ Path l x.f0 (x :: B) := by
 induction h with
 | root => intro x hx; cases hx
 | step d U x h hx e ih =>
  intro y hy
  rcases List.mem_cons.1 hy with rfl | hy
  ·
   exact ⟨[], U, rfl, .step d U y h hx e⟩
  ·
   obtain ⟨A, B, rfl, hp⟩ := ih y hy
   exact ⟨x :: A, B, rfl, hp⟩
theorem Path.nodup {l : List Node} (hs : Store l) {d : Dot} {U : List Node} (h : Path l d U) : U.Nodup := by
 induction h with
 | root => exact List.nodup_nil
 | step d U x h hx e ih =>
  refine List.nodup_cons.2 ⟨fun hm => ?_, ih⟩
  obtain ⟨A, B, rfl, hp⟩ := h.part x hm
  have := congrArg List.length (hp.unique hs (.step d _ x h hx e))
  simp at this
  omega
theorem nodup_le {α : Type} [DecidableEq α] : ∀ {a l : List α}, a.Nodup → (∀ x ∈ a, x ∈ l) → a.length ≤ l.length
 | [], _, _, _ => Nat.zero_le _
 | x :: a, l, h, hs => by
  obtain ⟨h1, h2⟩ := List.nodup_cons.1 h
  have hx := hs x List.mem_cons_self
  have := nodup_le (l := l.erase x) h2 fun y hy => (List.mem_erase_of_ne (fun e => h1 (by rw [← e]; exact hy))).2 (hs y (List.mem_cons_of_mem _ hy))
  have hl := List.length_erase_of_mem hx
  have : 0 < l.length := List.length_pos_of_mem hx
  simp only [List.length_cons]
  omega
theorem Path.le {l : List Node} (hs : Store l) {d : Dot} {U : List Node} (h : Path l d U) : U.length ≤ l.length := nodup_le (h.nodup hs) h.mem
theorem Path.low {l : List Node} (hs : Store l) : ∀ (n : Nat) {d : Dot} {U : List Node}, Path l d U → U.length + n = l.length → Low l n d
 | 0, d, U, h, e => by
  show kids l d = []
  refine List.eq_nil_iff_forall_not_mem.2 fun x hx => ?_
  obtain ⟨hx, e2⟩ := mem_kids.1 hx
  have := (Path.step d U x h hx e2).le hs
  simp at this; omega
 | n + 1, d, U, h, e => fun x hx => by
  obtain ⟨hx, e2⟩ := mem_kids.1 hx
  exact Path.low hs n (Path.step d U x h hx e2) (by simp; omega)
theorem Path.lows {l : List Node} (hs : Store l) {d : Dot} {U : List Node} (h : Path l d U) : Low l (l.length - U.length) d := h.low hs _ (by have := h.le hs; omega)
/-- All that are reached, in the order of the tree, with their depths. -/
def belowOf (l : List Node) (dep : Nat) (d : Dot) : List (Nat × Node) := belowN l (l.length + 1) dep d
def ordOf (l : List Node) : List (Nat × Node) := belowOf l 0 ⟨0, 0⟩
theorem belowOf_kids {l : List Node} (hs : Store l) {d : Dot} {U : List Node} (h : Path l d U) (dep : Nat) : belowOf l dep d = (kids l d).flatMap fun x => (dep, x) :: belowOf l (dep + 1) x.f0 := by
 unfold belowOf
 rw [belowN]
 refine flatMap_same fun x hx => ?_
 obtain ⟨hx, e2⟩ := mem_kids.1 hx
 have hp := Path.step d U x h hx e2
 have h1 := hp.lows hs
 have hl := hp.le hs
 simp only [List.length_cons] at h1 hl
 rw [belowN_any (dep + 1) h1 (by omega), ← belowN_any (dep + 1) h1 (m := l.length + 1) (by omega)]
/-- What is still to come, where the stack holds these. -/
def restOf (l : List Node) (todo : List (Nat × Node)) : List (Nat × Node) := todo.flatMap fun p => p :: belowOf l (p.1 + 1) p.2.f0
theorem restOf_cons {l : List Node} (hs : Store l) {p : Nat × Node} {todo : List (Nat × Node)} {U : List Node} (h : Path l p.2.f0 U) :
  restOf l (p :: todo) = p :: restOf l ((kids l p.2.f0).map (fun y => (p.1 + 1, y)) ++ todo) := by
 unfold restOf
 rw [List.flatMap_cons, List.flatMap_append, List.flatMap_map, ← belowOf_kids hs h (p.1 + 1)]
 rfl
theorem restOf_kids {l : List Node} (hs : Store l) {d : Dot} {U : List Node} (h : Path l d U) (dep : Nat) : restOf l ((kids l d).map fun y => (dep, y)) = belowOf l dep d := by
 unfold restOf
 rw [List.flatMap_map, belowOf_kids hs h dep]
theorem restOf_le (l : List Node) : ∀ todo, todo.length ≤ (restOf l todo).length
 | [] => Nat.le_refl _
 | p :: todo => by
  have := restOf_le l todo
  unfold restOf at *
  rw [List.flatMap_cons, List.length_append]
  simp only [List.length_cons]; omega
/-- Where a node stands among those below a dot. -/
theorem mem_belowN {l : List Node} (hs : Store l) : ∀ {n dep : Nat} {d : Dot} {U : List Node} {p : Nat × Node}, Path l d U → U.length = dep → p ∈ belowN l n dep d →
  ∃ x P V, x ∈ kids l d ∧ Path l p.2.f0 (p.2 :: V) ∧ V.length = p.1 ∧ p.2 :: V = P ++ x :: U
 | 0, dep, d, U, p, _, _, hm => by cases hm
 | n + 1, dep, d, U, p, h, hd, hm => by
  rw [belowN] at hm
  obtain ⟨x, hx, hm⟩ := List.mem_flatMap.1 hm
  obtain ⟨hxl, e2⟩ := mem_kids.1 hx
  have hp := Path.step d U x h hxl e2
  rcases List.mem_cons.1 hm with rfl | hm
  ·
   exact ⟨x, [], U, hx, hp, hd, rfl⟩
  ·
   obtain ⟨y, P, V, _, h1, h2, h3⟩ := mem_belowN hs hp (by simp only [List.length_cons]; omega) hm
   exact ⟨x, P ++ [y], V, hx, h1, h2, by rw [h3]; simp⟩
theorem mem_belowN_dep {l : List Node} (hs : Store l) {n dep : Nat} {d : Dot} {U : List Node} {p : Nat × Node} (h : Path l d U) (hd : U.length = dep) (hm : p ∈ belowN l n dep d) : dep ≤ p.1 := by
 obtain ⟨x, P, V, _, _, h2, h3⟩ := mem_belowN hs h hd hm
 have := congrArg List.length h3
 simp at this
 omega
theorem nodup_flatMap {α β : Type} {f : α → List β} : ∀ {l : List α}, l.Nodup → (∀ x ∈ l, (f x).Nodup) → (∀ x ∈ l, ∀ y ∈ l, ∀ b, b ∈ f x → b ∈ f y → x = y) → (l.flatMap f).Nodup
 | [], _, _, _ => List.nodup_nil
 | x :: l, h, h1, h2 => by
  obtain ⟨hx, hl⟩ := List.nodup_cons.1 h
  rw [List.flatMap_cons, List.nodup_append]
  refine ⟨h1 x List.mem_cons_self, nodup_flatMap hl (fun y hy => h1 y (List.mem_cons_of_mem _ hy)) (fun y hy z hz b => h2 y (List.mem_cons_of_mem _ hy) z (List.mem_cons_of_mem _ hz) b), fun a ha b hb e => ?_⟩
  subst e
  obtain ⟨y, hy, hb⟩ := List.mem_flatMap.1 hb
  have := h2 x List.mem_cons_self y (List.mem_cons_of_mem _ hy) a ha hb
  subst this
  exact hx hy
theorem inc_nodup {l : List Node} (h : Inc l) : l.Nodup := by
 refine List.Pairwise.imp (fun {a b} hab e => ?_) h
 subst e
 rw [dotLt_irrefl] at hab; cases hab
theorem kids_nodup {l : List Node} (hs : Store l) (d : Dot) : (kids l d).Nodup := (kids_perm l d).nodup_iff.2 ((inc_nodup hs.inc).filter _)
theorem belowN_nodup {l : List Node} (hs : Store l) : ∀ {n dep : Nat} {d : Dot} {U : List Node}, Path l d U → U.length = dep → (belowN l n dep d).Nodup
 | 0, _, _, _, _, _ => List.nodup_nil
 | n + 1, dep, d, U, h, hd => by
  rw [belowN]
  have hst : ∀ x ∈ kids l d, Path l x.f0 (x :: U) := fun x hx => by obtain ⟨hxl, e2⟩ := mem_kids.1 hx; exact Path.step d U x h hxl e2
  have hwhere : ∀ x ∈ kids l d, ∀ b, b ∈ (dep, x) :: belowN l n (dep + 1) x.f0 → ∃ P V, Path l b.2.f0 (b.2 :: V) ∧ b.2 :: V = P ++ x :: U := by
   intro x hx b hb
   rcases List.mem_cons.1 hb with rfl | hb
   ·
    exact ⟨[], U, hst x hx, rfl⟩
   ·
    obtain ⟨y, P, V, _, h1, h2, h3⟩ := mem_belowN hs (hst x hx) (by simp only [List.length_cons]; omega) hb
    exact ⟨P ++ [y], V, h1, by rw [h3]; simp⟩
  refine nodup_flatMap (kids_nodup hs d) (fun x hx => ?_) (fun x hx y hy b hb1 hb2 => ?_)
  ·
   refine List.nodup_cons.2 ⟨fun hm => ?_, belowN_nodup hs (hst x hx) (by simp only [List.length_cons]; omega)⟩
   have := mem_belowN_dep hs (hst x hx) (by simp only [List.length_cons]; omega) hm
   simp at this
   omega
  ·
   obtain ⟨P1, V1, hp1, e1⟩ := hwhere x hx b hb1
   obtain ⟨P2, V2, hp2, e2⟩ := hwhere y hy b hb2
   have hv := hp1.unique hs hp2
   rw [e1, e2] at hv
   have := List.append_inj' hv (by simp)
   exact (List.cons.inj this.2).1
/-- No node is reached twice. -/
theorem ord_nodup {l : List Node} (hs : Store l) : ((ordOf l).map (·.2)).Nodup := by
 have hn := belowN_nodup hs (n := l.length + 1) (Path.root (l := l)) rfl
 refine List.Pairwise.map (R := fun a b => a ≠ b ∧ a ∈ ordOf l ∧ b ∈ ordOf l) _ (fun a b ⟨hab, ha, hb⟩ e => ?_) ?_
 ·
  obtain ⟨_, _, V1, _, h1, h2, _⟩ := mem_belowN hs Path.root rfl ha
  obtain ⟨_, _, V2, _, k1, k2, _⟩ := mem_belowN hs Path.root rfl hb
  have e' : a.2 = b.2 := e
  rw [e'] at h1
  have := (List.cons.inj (h1.unique hs k1)).2
  subst this
  exact hab (Prod.ext (by omega) e')
 ·
  exact List.Pairwise.imp_of_mem (fun ha hb h => ⟨h, ha, hb⟩) hn
theorem mem_ord {l : List Node} (hs : Store l) {p : Nat × Node} (h : p ∈ ordOf l) : ∃ V, Path l p.2.f0 (p.2 :: V) ∧ V.length = p.1 := by
 obtain ⟨_, _, V, _, h1, h2, _⟩ := mem_belowN hs Path.root rfl h
 exact ⟨V, h1, h2⟩
theorem ord_mem {l : List Node} (hs : Store l) {p : Nat × Node} (h : p ∈ ordOf l) : p.2 ∈ l := by
 obtain ⟨V, h1, _⟩ := mem_ord hs h
 exact h1.mem _ List.mem_cons_self
theorem ord_le {l : List Node} (hs : Store l) : (ordOf l).length ≤ l.length := by
 have := nodup_le (ord_nodup hs) (l := l) fun x hx => by obtain ⟨p, hp, rfl⟩ := List.mem_map.1 hx; exact ord_mem hs hp
 simpa using this
end Go.Proofs.YtmbndijbpgobeaaGreat.PWalk
end
section
namespace Go.Proofs
open Go.Shelf
def Tryz.sortNode_ren : Go.Shelf.Ren := ⟨fun | 6 => 130 | 15 => 98 | 14 => 139 | 28 => 114 | 29 => 115 | 20 => 147 | 21 => 148 | 22 => 149 | 23 => 150 | 24 => 151 | 25 => 152 | 26 => 153 | 27 => 154 | 46 => 156 | 47 => 122 | 48 => 123 | 49 => 157 | 50 => 158 | 57 => 160 | n => n, fun | 22 => 22 | 24 => 53 | 25 => 162 | 3 => 3 | 39 => 99 | 0 => 0 | 53 => 139 | 55 => 141 | 4 => 4 | 46 => 133 | 45 => 132 | 50 => 76 | 5 => 5 | 9 => 9 | 66 => 148 | 70 => 152 | 76 => 168 | 77 => 169 | n => n, fun | n => n⟩
theorem Tryz.sortNode : Go.Proofs.SlLaysF0.n6 Tryz.prog Tryz.sortNode_ren := {
 mixed := by kernel_rfl
 f6 := ⟨Tryz.f130.name, by decide, Tryz.func130.trans (congrArg some (by kernel_rfl))⟩
 f14 := ⟨Tryz.f139.name, by decide, Tryz.func139.trans (congrArg some (by kernel_rfl))⟩
 f15 := Tryz.func98.trans (congrArg some (by kernel_rfl))
 f20 := ⟨Tryz.f147.name, by decide, Tryz.func147.trans (congrArg some (by kernel_rfl))⟩
 f21 := ⟨Tryz.f148.name, by decide, Tryz.func148.trans (congrArg some (by kernel_rfl))⟩
 f22 := ⟨Tryz.f149.name, by decide, Tryz.func149.trans (congrArg some (by kernel_rfl))⟩
 f23 := ⟨Tryz.f150.name, by decide, Tryz.func150.trans (congrArg some (by kernel_rfl))⟩
 f24 := ⟨Tryz.f151.name, by decide, Tryz.func151.trans (congrArg some (by kernel_rfl))⟩
 f25 := ⟨Tryz.f152.name, by decide, Tryz.func152.trans (congrArg some (by kernel_rfl))⟩
 f26 := ⟨Tryz.f153.name, by decide, Tryz.func153.trans (congrArg some (by kernel_rfl))⟩
 f27 := ⟨Tryz.f154.name, by decide, Tryz.func154.trans (congrArg some (by kernel_rfl))⟩
 f28 := Tryz.func114.trans (congrArg some (by kernel_rfl))
 f29 := Tryz.func115.trans (congrArg some (by kernel_rfl))
 f46 := ⟨Tryz.f156.name, by decide, Tryz.func156.trans (congrArg some (by kernel_rfl))⟩
 f47 := Tryz.func122.trans (congrArg some (by kernel_rfl))
 f48 := Tryz.func123.trans (congrArg some (by kernel_rfl))
 f49 := ⟨Tryz.f157.name, by decide, Tryz.func157.trans (congrArg some (by kernel_rfl))⟩
 f50 := ⟨Tryz.f158.name, by decide, Tryz.func158.trans (congrArg some (by kernel_rfl))⟩
 f57 := ⟨Tryz.f160.name, by decide, Tryz.func160.trans (congrArg some (by kernel_rfl))⟩
 t0 := Tryz.underlying0
 a0 := Tryz.isAgg0
 z0 := Tryz.sizeOf0
 v0 := Tryz.zeroValue0
 t3 := Tryz.underlying3
 a3 := Tryz.isAgg3
 z3 := Tryz.sizeOf3
 v3 := Tryz.zeroValue3
 t4 := Tryz.underlying4
 a4 := Tryz.isAgg4
 z4 := Tryz.sizeOf4
 v4 := Tryz.zeroValue4
 t5 := Tryz.underlying5
 a5 := Tryz.isAgg5
 z5 := Tryz.sizeOf5
 v5 := Tryz.zeroValue5
 t9 := Tryz.underlying9
 a9 := Tryz.isAgg9
 z9 := Tryz.sizeOf9
 v9 := Tryz.zeroValue9
 t22 := Tryz.underlying22
 a22 := Tryz.isAgg22
 z22 := Tryz.sizeOf22
 v22 := Tryz.zeroValue22
 t25 := Tryz.underlying162
 a25 := Tryz.isAgg162
 z25 := Tryz.sizeOf162
 v25 := Tryz.zeroValue162
 t39 := Tryz.underlying99
 a39 := Tryz.isAgg99
 z39 := Tryz.sizeOf99
 v39 := Tryz.zeroValue99
 t45 := Tryz.underlying132
 a45 := Tryz.isAgg132
 z45 := Tryz.sizeOf132
 v45 := Tryz.zeroValue132
 t46 := Tryz.underlying133
 a46 := Tryz.isAgg133
 z46 := Tryz.sizeOf133
 v46 := Tryz.zeroValue133
 t50 := Tryz.underlying76
 a50 := Tryz.isAgg76
 z50 := Tryz.sizeOf76
 v50 := Tryz.zeroValue76
 t53 := Tryz.underlying139
 a53 := Tryz.isAgg139
 z53 := Tryz.sizeOf139
 v53 := Tryz.zeroValue139
 t55 := Tryz.underlying141
 a55 := Tryz.isAgg141
 z55 := Tryz.sizeOf141
 v55 := Tryz.zeroValue141
 t66 := Tryz.underlying148
 a66 := Tryz.isAgg148
 z66 := Tryz.sizeOf148
 v66 := Tryz.zeroValue148
 t70 := Tryz.underlying152
 a70 := Tryz.isAgg152
 z70 := Tryz.sizeOf152
 v70 := Tryz.zeroValue152
 t76 := Tryz.underlying168
 a76 := Tryz.isAgg168
 z76 := Tryz.sizeOf168
 v76 := Tryz.zeroValue168
 t77 := Tryz.underlying169
 a77 := Tryz.isAgg169
 z77 := Tryz.sizeOf169
 v77 := Tryz.zeroValue169 }
def Tryz.sortDot_ren : Go.Shelf.Ren := ⟨fun | 6 => 74 | 15 => 98 | 14 => 97 | 28 => 114 | 29 => 115 | 20 => 106 | 21 => 107 | 22 => 108 | 23 => 109 | 24 => 110 | 25 => 111 | 26 => 112 | 27 => 113 | 46 => 121 | 47 => 122 | 48 => 123 | 49 => 124 | 50 => 125 | 57 => 134 | n => n, fun | 22 => 70 | 24 => 25 | 25 => 78 | 3 => 3 | 39 => 99 | 0 => 0 | 53 => 139 | 55 => 141 | 4 => 4 | 46 => 133 | 45 => 132 | 50 => 76 | 5 => 5 | 9 => 9 | 66 => 148 | 70 => 152 | 76 => 168 | 77 => 169 | n => n, fun | n => n⟩
theorem Tryz.sortDot : Go.Proofs.SlLaysF0.n6 Tryz.prog Tryz.sortDot_ren := {
 mixed := by kernel_rfl
 f6 := ⟨Tryz.f74.name, by decide, Tryz.func74.trans (congrArg some (by kernel_rfl))⟩
 f14 := ⟨Tryz.f97.name, by decide, Tryz.func97.trans (congrArg some (by kernel_rfl))⟩
 f15 := Tryz.func98.trans (congrArg some (by kernel_rfl))
 f20 := ⟨Tryz.f106.name, by decide, Tryz.func106.trans (congrArg some (by kernel_rfl))⟩
 f21 := ⟨Tryz.f107.name, by decide, Tryz.func107.trans (congrArg some (by kernel_rfl))⟩
 f22 := ⟨Tryz.f108.name, by decide, Tryz.func108.trans (congrArg some (by kernel_rfl))⟩
 f23 := ⟨Tryz.f109.name, by decide, Tryz.func109.trans (congrArg some (by kernel_rfl))⟩
 f24 := ⟨Tryz.f110.name, by decide, Tryz.func110.trans (congrArg some (by kernel_rfl))⟩
 f25 := ⟨Tryz.f111.name, by decide, Tryz.func111.trans (congrArg some (by kernel_rfl))⟩
 f26 := ⟨Tryz.f112.name, by decide, Tryz.func112.trans (congrArg some (by kernel_rfl))⟩
 f27 := ⟨Tryz.f113.name, by decide, Tryz.func113.trans (congrArg some (by kernel_rfl))⟩
 f28 := Tryz.func114.trans (congrArg some (by kernel_rfl))
 f29 := Tryz.func115.trans (congrArg some (by kernel_rfl))
 f46 := ⟨Tryz.f121.name, by decide, Tryz.func121.trans (congrArg some (by kernel_rfl))⟩
 f47 := Tryz.func122.trans (congrArg some (by kernel_rfl))
 f48 := Tryz.func123.trans (congrArg some (by kernel_rfl))
 f49 := ⟨Tryz.f124.name, by decide, Tryz.func124.trans (congrArg some (by kernel_rfl))⟩
 f50 := ⟨Tryz.f125.name, by decide, Tryz.func125.trans (congrArg some (by kernel_rfl))⟩
 f57 := ⟨Tryz.f134.name, by decide, Tryz.func134.trans (congrArg some (by kernel_rfl))⟩
 t0 := Tryz.underlying0
 a0 := Tryz.isAgg0
 z0 := Tryz.sizeOf0
 v0 := Tryz.zeroValue0
 t3 := Tryz.underlying3
 a3 := Tryz.isAgg3
 z3 := Tryz.sizeOf3
 v3 := Tryz.zeroValue3
 t4 := Tryz.underlying4
 a4 := Tryz.isAgg4
 z4 := Tryz.sizeOf4
 v4 := Tryz.zeroValue4
 t5 := Tryz.underlying5
 a5 := Tryz.isAgg5
 z5 := Tryz.sizeOf5
 v5 := Tryz.zeroValue5
 t9 := Tryz.underlying9
 a9 := Tryz.isAgg9
 z9 := Tryz.sizeOf9
 v9 := Tryz.zeroValue9
 t22 := Tryz.underlying70
 a22 := Tryz.isAgg70
 z22 := Tryz.sizeOf70
 v22 := Tryz.zeroValue70
 t25 := Tryz.underlying78
 a25 := Tryz.isAgg78
 z25 := Tryz.sizeOf78
 v25 := Tryz.zeroValue78
 t39 := Tryz.underlying99
 a39 := Tryz.isAgg99
 z39 := Tryz.sizeOf99
 v39 := Tryz.zeroValue99
 t45 := Tryz.underlying132
 a45 := Tryz.isAgg132
 z45 := Tryz.sizeOf132
 v45 := Tryz.zeroValue132
 t46 := Tryz.underlying133
 a46 := Tryz.isAgg133
 z46 := Tryz.sizeOf133
 v46 := Tryz.zeroValue133
 t50 := Tryz.underlying76
 a50 := Tryz.isAgg76
 z50 := Tryz.sizeOf76
 v50 := Tryz.zeroValue76
 t53 := Tryz.underlying139
 a53 := Tryz.isAgg139
 z53 := Tryz.sizeOf139
 v53 := Tryz.zeroValue139
 t55 := Tryz.underlying141
 a55 := Tryz.isAgg141
 z55 := Tryz.sizeOf141
 v55 := Tryz.zeroValue141
 t66 := Tryz.underlying148
 a66 := Tryz.isAgg148
 z66 := Tryz.sizeOf148
 v66 := Tryz.zeroValue148
 t70 := Tryz.underlying152
 a70 := Tryz.isAgg152
 z70 := Tryz.sizeOf152
 v70 := Tryz.zeroValue152
 t76 := Tryz.underlying168
 a76 := Tryz.isAgg168
 z76 := Tryz.sizeOf168
 v76 := Tryz.zeroValue168
 t77 := Tryz.underlying169
 a77 := Tryz.isAgg169
 z77 := Tryz.sizeOf169
 v77 := Tryz.zeroValue169 }
end Go.Proofs
end
section
namespace Go.Proofs.YtmbndijbpgobeaaGreat.PWalk
open Go.RowKit Go.Proofs.YtmbndijbpgobeaaGreatW.PrintWords Go.Proofs.YtmbndijbpgobeaaGreatW.PrintLast Go.Proofs.YtmbndijbpgobeaaGreatW.PrintMore
set_option linter.unusedVariables false
set_option linter.unusedSimpArgs false
open Go.Shelf
attribute [local go_sem] Oper.semAt_some
set_option maxHeartbeats 1000000 in
set_option maxRecDepth 100000 in
theorem cloneE_call (base : Nat) (v : Value) (n : Nat) (cs : List Value) (w : World) (ho : w.ownsRow base 176 3 v n cs) (hcs1 : ∀ u ∈ cs, u.oneCell' = true) (hn : n ≤ 1000000) :
  Calls Tryz.prog 145 #[v] w fun e w' => ∃ v', e = .returned v' ∧ w'.ownsRow w.heap.size 176 3 v' n cs ∧ Below w.heap.size w w' := by
 obtain ⟨hcl, ho⟩ := ho
 rcases ho with ⟨rfl, rfl⟩ | ⟨g, cap, cur, rfl, hbg, hcur, hle, hmx, hsz, htk⟩
 ·
  have hq := fun (W : World) => Lib.run_eql_slice_nil_nil (P := Tryz.prog) W 0 0 Tryz.underlying171
  have hcs : cs = [] := List.length_eq_zero_iff.1 (by omega)
  subst hcs
  go_enter Tryz.func145, Tryz.ntmps145
  go_wp2
  go_ret
  exact ⟨_, rfl, ⟨rfl, .inl ⟨rfl, rfl⟩⟩, Below.refl _ _⟩
 ·
  have hq := fun (W : World) => Lib.run_eql_slice_some_nil (P := Tryz.prog) W ⟨g, 0, none⟩ n cap Tryz.underlying171
  obtain ⟨i0, hi, hz0, hz1, hz2⟩ := info_parts infoE
  have hz := Tryz.zeroValue176
  have HCL := Aside0.mk hcl
  have H1 := Aside0.mk hcs1
  have HN := Aside0.mk hn
  have HCELL : Aside0 (∀ j u, cs[j]? = some u → w.cell? ((⟨g, 0, none⟩ : Addr).add j) = some u) := ⟨fun j u hj => by
   rw [add_lit, Nat.zero_add, blk_cell hcur, ← Array.getElem?_toList]
   rw [← htk, List.getElem?_take] at hj
   split at hj
   ·
    exact hj
   ·
    cases hj⟩
  clear hcur htk hsz hcl hcs1 hn
  go_enter Tryz.func145, Tryz.ntmps145
  go_wp2_with (at_builtin; go_loud (refine wpList_append_own _ rfl (.tmp 5) (.tmp 6) 171 rfl w.heap.size 176 i0 _ 3 40 Tryz.underlying171 hi hz0 hz1 hz2 rfl (by decide) _ 0 [] rfl (World.ownsRow_lit w #[] 0 (Nat.le_refl _) (by decide) rfl) ⟨g, 0, none⟩ n cap cs rfl HCL.out ?c1 H1.out ?c2 ?c3 ?c4 ?_); (case c1 => exact fun j u hu => pw_cell_below (below_alloc (Below.refl _ _) _) (HCELL.out j u hu)); (case c2 => unfold maxLen; have := HN.out; omega); (case c3 => have := HN.out; omega); (case c4 => simp); intro v' w' ho hg hn)
  go_ret
  exact ⟨_, rfl, by simpa using ho, (below_alloc (Below.refl _ _) _).grown hg (by simp) (fun k e => by cases (show some w.heap.size = some k from e); exact Nat.le_refl _)⟩
/-- The entries that an iterator goes over, in a row of their own. -/
structure OverSt (base : Nat) (W : World) (bc : Nat) (v : Value) (ks : List Dot) (vs : List Value) : Prop where
 box : W.heap[bc]? = some (.cells #[v] 171 (0, 0))
 own : base ≤ bc
 row : W.ownsRow base 176 3 v ks.length (entsOf ks vs)
 len : vs.length = ks.length
 small : ks.length ≤ 1000000
 one : ∀ v ∈ vs, v.oneCell' = true
theorem OverSt.ents {base : Nat} {W : World} {bc : Nat} {v : Value} {ks : List Dot} {vs : List Value} (h : OverSt base W bc v ks vs) : ∃ A c, v = .slice A ks.length c ∧ Ents W A ks.length ks vs := by
 rcases h.row.2 with ⟨rfl, h0⟩ | ⟨g, c, cur, rfl, hbg, hcur, hle, hmx, hsz, htk⟩
 ·
  have hks : ks = [] := List.length_eq_zero_iff.1 h0
  subst hks
  exact ⟨none, 0, rfl, ⟨rfl, h.len, by simp, h.one, fun i k v hk => by simp at hk⟩⟩
 ·
  refine ⟨_, c, rfl, ⟨rfl, h.len, h.small, h.one, fun i k v hk hv => ⟨g, rfl, ?_⟩⟩⟩
  have hi : i < ks.length := (List.getElem?_eq_some_iff.1 hk).1
  have hc : ∀ j, j < 3 → W.cell? ⟨g, i * 3 + j, none⟩ = (entCells k v)[j]? := fun j hj => by
   rw [blk_cell hcur, ← Array.getElem?_toList, ← entsOf_get hk hv j hj, ← htk, List.getElem?_take, if_pos (by omega)]
  exact ⟨hc 0 (by decide), hc 1 (by decide), hc 2 (by decide)⟩
theorem OverSt.keep {base : Nat} {W V : World} {bc : Nat} {v : Value} {ks : List Dot} {vs : List Value} (h : OverSt base W bc v ks vs) (hm : V.heap[bc]? = W.heap[bc]?) (hv : ∀ g, v.ownBlock = some g → V.heap[g]? = W.heap[g]?) : OverSt base V bc v ks vs :=
 ⟨hm.trans h.box, h.own, ownsRow_keep h.row hv, h.len, h.small, h.one⟩
set_option maxHeartbeats 1000000 in
set_option maxRecDepth 100000 in
theorem over_call (base : Nat) (v : Value) (ks : List Dot) (vs : List Value) (w : World) (ho : w.ownsRow base 176 3 v ks.length (entsOf ks vs)) (hl : vs.length = ks.length) (hn : ks.length ≤ 1000000) (h1 : ∀ v ∈ vs, v.oneCell' = true) :
  Calls Tryz.prog 138 #[v] w fun e w' => ∃ bc v', e = .returned (.func (.func 146) #[] #[.pointer (some ⟨bc, 0, none⟩)]) ∧ OverSt w.heap.size w' bc v' ks vs ∧ Below w.heap.size w w' := by
 obtain ⟨A, c, rfl⟩ := ownsRow_slice ho
 have hb := (Gr.alloc w (.cells #[.slice A ks.length c] 171 (0, 0))).below
 have hlt : ∀ g, (Value.slice A ks.length c).ownBlock = some g → g < w.heap.size := fun g hg => by
  rcases ho.2 with ⟨e, _⟩ | ⟨g', c', cur, e, _, hcur, _⟩
  ·
   rw [e] at hg; cases hg
  ·
   rw [e] at hg; cases hg; exact blk_lt hcur
 have HO : Aside0 ((w.alloc (.cells #[.slice A ks.length c] 171 (0, 0))).ownsRow base 176 3 (.slice A ks.length c) ks.length (entsOf ks vs)) := ⟨ownsRow_keep ho (fun g hg => hb.block g (hlt g hg))⟩
 have HBX : Aside0 ((w.alloc (.cells #[.slice A ks.length c] 171 (0, 0))).heap[w.heap.size]? = some (.cells #[.slice A ks.length c] 171 (0, 0))) := ⟨blk_new _ _⟩
 have HB := Aside0.mk hb
 have HL := Aside0.mk hl
 have HN := Aside0.mk hn
 have H1 := Aside0.mk h1
 clear ho hb hlt hl hn h1
 go_enter Tryz.func138, Tryz.ntmps138
 go_wp2_with fail
 refine (cloneE_call base _ ks.length (entsOf ks vs) _ HO.out (entsOf_one H1.out) HN.out).mono ?_
 rintro e w1 ⟨v', rfl, ho, hb⟩
 obtain ⟨A', c', rfl⟩ := ownsRow_slice ho
 have hbx := blk_keep HBX.out hb
 have hf := blk_frozen hbx 0
 have hc0 : w1.cell? ⟨w.heap.size, 0, none⟩ = _ := (blk_cell hbx 0).trans rfl
 have HEND : Aside0 (OverSt w.heap.size (w1.setCell ⟨w.heap.size, 0, none⟩ (.slice A' ks.length c')) w.heap.size (.slice A' ks.length c') ks vs ∧ Below w.heap.size w (w1.setCell ⟨w.heap.size, 0, none⟩ (.slice A' ks.length c'))) := ⟨by
  have hgr : w1.grownBy (w1.setCell ⟨w.heap.size, 0, none⟩ (.slice A' ks.length c')) (some w.heap.size) := ⟨rfl, rfl, rfl, by rw [World.size_setCell]; exact Nat.le_refl _, fun k hk hne => Below.heap_setCell w1 _ _ k (fun e => hne (by rw [e]))⟩
  refine ⟨⟨blk_set hbx 0 _, Nat.le_refl _, ?_, HL.out, HN.out, H1.out⟩, (below_more HB.out hb).grown hgr (below_more HB.out hb).size (fun k e => by cases e; exact Nat.le_refl _)⟩
  have ho2 : w1.ownsRow w.heap.size 176 3 (.slice A' ks.length c') ks.length (entsOf ks vs) := by
   refine ⟨ho.1, ho.2.imp id ?_⟩
   rintro ⟨g, c, cur, e, hbg, hr⟩
   exact ⟨g, c, cur, e, by rw [World.size_alloc] at hbg; omega, hr⟩
  refine ownsRow_keep ho2 (fun g hg => Below.heap_setCell w1 _ _ g (fun e => ?_))
  rcases ho.2 with ⟨e2, _⟩ | ⟨g', c2, cur, e2, hbg, hcur, _⟩
  ·
   rw [e2] at hg; cases hg
  ·
   rw [e2] at hg; cases hg
   rw [World.size_alloc] at hbg
   have e' : g' = w.heap.size := e
   omega⟩
 clear hbx ho hb HB HO HBX
 go_wp2
 go_ret
 exact ⟨_, _, rfl, HEND.out⟩
set_option maxHeartbeats 1000000 in
set_option maxRecDepth 100000 in
theorem all_call (base mp : Nat) (v : Value) (ks : List Dot) (vs : List Value) (w : World) (h : MapSt base w mp v ks vs) :
  Calls Tryz.prog 129 #[.pointer (some ⟨mp, 0, none⟩)] w fun e w' => ∃ bc v', e = .returned (.func (.func 146) #[] #[.pointer (some ⟨bc, 0, none⟩)]) ∧ OverSt w.heap.size w' bc v' ks vs ∧ Below w.heap.size w w' := by
 have H := Aside0.mk h
 obtain ⟨A, c, e, _⟩ := h.ents
 have hm1 : w.cell? ⟨mp, 1, none⟩ = some (.slice A ks.length c) := (blk_cell h.map 1).trans (by rw [e]; rfl)
 have HE := Aside0.mk e
 clear h e
 go_enter Tryz.func129, Tryz.ntmps129
 go_wp2_with fail
 refine (zero_call mp _ w H.out.map).mono ?_
 rintro e w1 ⟨rfl, rfl⟩
 go_wp2_with fail
 refine (over_call base _ ks vs w1 (by rw [← HE.out]; exact H.out.row) H.out.len H.out.small H.out.one).mono ?_
 rintro e w2 ⟨bc, v', rfl, ho, hb⟩
 have HO := Aside0.mk ho
 have HB := Aside0.mk hb
 clear ho hb hm1
 go_wp2
 go_ret
 exact ⟨_, _, rfl, HO.out, HB.out⟩
theorem zip_get {ks : List Dot} {vs : List Value} {k : Nat} (hl : vs.length = ks.length) (hk : k < ks.length) : ∃ d u, (ks.zip vs)[k]? = some (d, u) ∧ ks[k]? = some d ∧ vs[k]? = some u :=
 ⟨ks[k], vs[k]'(by omega), by rw [List.getElem?_zip_eq_some]; exact ⟨List.getElem?_eq_getElem hk, List.getElem?_eq_getElem (by omega)⟩, List.getElem?_eq_getElem hk, List.getElem?_eq_getElem (by omega)⟩
set_option maxRecDepth 100000 in
set_option maxHeartbeats 1000000 in
theorem over_in (n lp bc n₀ base : Nat) (E : Nat → Prop) (v : Value) (ks : List Dot) (vs : List Value) (hn : 1 ≤ n) (J Jx : Nat → World → Prop) (W : World) (hJ : ∀ k A o, W.heap.size ≤ A.heap.size → J k A → J k (A.alloc o))
  (hY : ∀ k p V, (ks.zip vs)[k]? = some p → J k V → YieldAt Fence.wide (n - 1) Tryz.prog lp #[vDot (p : Dot × Value).1, p.2] V fun e V' => (e = .returned (.bool true) ∧ J (k + 1) V' ∧ KpE n₀ E V V') ∨ (e = .returned (.bool false) ∧ Jx (k + 1) V'))
  (hO : OverSt base W bc v ks vs) (hn0 : n₀ ≤ W.heap.size) (hB : bc < n₀ ∧ ¬ E bc) (hA : ∀ g, v.ownBlock = some g → g < n₀ ∧ ¬ E g) (h0 : J 0 W) (hsl : ∀ u ∈ vs, ∃ A m c, u = .slice A m c) :
  CallsIn Fence.wide n Tryz.prog 146 #[.func (.yield lp) #[] #[], .pointer (some ⟨bc, 0, none⟩)] W fun e V => (∃ r, e = .returned r) ∧ (J (ks.zip vs).length V ∨ ∃ k, k ≤ (ks.zip vs).length ∧ Jx k V) := by
 have hzl : (ks.zip vs).length = ks.length := by rw [List.length_zip, hO.len, Nat.min_self]
 obtain ⟨A, c, hv, _⟩ := hO.ents
 have HY := Aside0.mk hY
 have HO := Aside0.mk hO
 have HJ := Aside0.mk hJ
 have HB := Aside0.mk hB
 have HA := Aside0.mk hA
 have HN0 := Aside0.mk hn0
 have HSL := Aside0.mk hsl
 have HV := Aside0.mk hv
 have HKE : ∀ {V : World}, KpE n₀ E W V → OverSt base V bc v ks vs := fun {V} hk => HO.out.keep (hk.2 bc HB.out.1 HB.out.2) (fun g hg => hk.2 g (HA.out g hg).1 (HA.out g hg).2)
 have HK := Aside0.mk @HKE
 obtain ⟨m, Hm⟩ : ∃ m, Aside0 (ks.length = m) := ⟨_, ⟨rfl⟩⟩
 rw [hzl, Hm.out]
 have hm6 : m ≤ 1000000 := by rw [← Hm.out]; exact hO.small
 have hb0 : W.cell? ⟨bc, 0, none⟩ = some (.slice A m c) := (blk_cell hO.box 0).trans (by rw [hv, Hm.out]; rfl)
 clear hY hO hJ hB hA hn0 HKE hsl hzl hv
 refine callsIn_of_wp Tryz.func146 rfl trivial ?_ rfl
 simp only [Tryz.ntmps146, List.size_toArray, List.length_cons, List.length_nil, Nat.reduceAdd, Nat.reduceSub, Array.replicate_succ, Array.replicate_zero, List.push_toArray, List.append_toArray, List.nil_append, List.cons_append]
 gi_wp2
 gi_loopw [7] (fun i wr => ∃ k : Nat, k ≤ m ∧ i = .int .i64 (k : Int) ∧ Aside0 (J k wr) ∧ Aside0 (KpE n₀ E W wr)) (fun i _ => m - (intOf i).toNat)
 case atStart => exact ⟨0, Nat.zero_le _, rfl, ⟨h0⟩, ⟨KpE.refl _ _ _⟩⟩
 case round =>
  obtain ⟨k, hk, rfl, hJ, hK⟩ := hrel
  clear h0 hb0
  by_cases hlt : k < m
  ·
   obtain ⟨d, u, hz, hkd, hvu⟩ := zip_get (ks := ks) (vs := vs) HO.out.len (show k < ks.length by rw [Hm.out]; exact hlt)
   obtain ⟨Au, nu, cu, rfl⟩ := HSL.out u (List.mem_of_getElem? hvu)
   have hO2 := HK.out hK.out
   obtain ⟨A', c', e', hents⟩ := hO2.ents
   obtain ⟨eb, ea, c0, c1, c2⟩ := hents.row k d _ hkd hvu
   have hAA : A = A' := by have := HV.out.symm.trans e'; cases this; rfl
   subst hAA
   subst ea
   have HJA := Aside0.mk (fun o => HJ.out k wr o hK.out.1 hJ.out)
   have HKA := Aside0.mk (fun o => (hK.out.trans (KpE.below (E := E) (((Below.refl wr.heap.size wr).alloc (Nat.le_refl _) o).mono (Nat.le_trans HN0.out hK.out.1)))))
   have HZ := Aside0.mk hz
   clear hO2 e' hents hkd hvu hz
   obtain ⟨fn, tmps, assign, body, hy, hR⟩ := HY.out k (d, .slice Au nu cu) (wr.alloc (.cells #[.int .i64 d.f0, .int .i64 d.f1, .slice Au nu cu] 176 (0, 0))) HZ.out (HJA.out _)
   dsimp only at hy
   gi_wp2
   refine hR.mono ?_
   rintro e W3 (⟨rfl, hJ3, hk3⟩ | ⟨rfl, hJx3⟩)
   ·
    gi_wp2
    go_roundw
    case rel => exact ⟨k + 1, by omega, by go_num, ⟨hJ3⟩, ⟨(HKA.out _).trans hk3⟩⟩
    case measure => simp [intOf] <;> omega
   ·
    gi_wp2
    refine bodyPost_ret (results_none rfl _ _ _) rfl ?_
    exact ⟨⟨_, rfl⟩, .inr ⟨k + 1, by omega, hJx3⟩⟩
  ·
   obtain rfl : k = m := by omega
   gi_wp2
   go_end0
   exact ⟨⟨_, rfl⟩, .inl hJ.out⟩
section
open Go.Sort
theorem flatMap_get {α : Type} [Inhabited α] (enc : α → List Value) (k : Nat) (hk : ∀ x, (enc x).length = k) (h0 : 0 < k) : ∀ (l : List α) (t : Nat), t < l.length * k → (l.flatMap enc)[t]? = (enc (l[t / k]?.getD default))[t % k]?
 | [], t, h => by simp at h
 | x :: l, t, h => by
  rw [List.flatMap_cons]
  by_cases ht : t < k
  ·
   rw [List.getElem?_append_left (by rw [hk]; exact ht), Nat.div_eq_of_lt ht, Nat.mod_eq_of_lt ht]
   rfl
  ·
   rw [List.getElem?_append_right (by rw [hk]; omega), hk]
   have hl : t - k < l.length * k := by
    rw [List.length_cons, Nat.add_mul, Nat.one_mul] at h
    omega
   rw [flatMap_get enc k hk h0 l (t - k) hl]
   have e1 : t / k = (t - k) / k + 1 := by
    rw [Nat.div_eq t k, if_pos ⟨h0, by omega⟩]
   have e2 : t % k = (t - k) % k := by
    rw [Nat.mod_eq t k, if_pos ⟨h0, by omega⟩]
   rw [e1, e2]
   rfl
theorem flatMap_len {α : Type} (enc : α → List Value) (k : Nat) (hk : ∀ x, (enc x).length = k) : ∀ l : List α, (l.flatMap enc).length = l.length * k
 | [] => by simp
 | x :: l => by rw [List.flatMap_cons, List.length_append, hk, flatMap_len enc k hk l, List.length_cons, Nat.add_mul, Nat.one_mul, Nat.add_comm]
theorem flatK_eq {α : Type} [Inhabited α] (enc : α → List Value) (k : Nat) (hk : ∀ x, (enc x).length = k) (h0 : 0 < k) (d : Array α) : flatK enc k d = (d.toList.flatMap enc).toArray := by
 refine ext_get! (by show _ = (d.toList.flatMap enc).length; rw [size_flatK, flatMap_len enc k hk, Array.length_toList]) fun t ht => ?_
 rw [size_flatK] at ht
 rw [get_flatK enc k d t ht]
 have h1 := flatMap_get enc k hk h0 d.toList t (by rw [Array.length_toList]; exact ht)
 have h2 : t / k < d.size := by rw [Nat.div_lt_iff_lt_mul h0]; exact ht
 have h3 : (d.toList[t / k]?.getD default) = d[t / k]! := by
  rw [getElem!_pos d _ h2, List.getElem?_eq_getElem (by rw [Array.length_toList]; exact h2)]
  simp
 rw [h3] at h1
 have h4 : t % k < (enc d[t / k]!).length := by rw [hk]; exact Nat.mod_lt _ h0
 rw [List.getElem?_eq_getElem h4] at h1
 have h5 : t < (d.toList.flatMap enc).toArray.size := by show t < (d.toList.flatMap enc).length; rw [flatMap_len enc k hk, Array.length_toList]; exact ht
 rw [getElem!_pos (enc d[t / k]!) (t % k) h4, getElem!_pos (d.toList.flatMap enc).toArray t h5]
 have := (List.getElem?_eq_some_iff.1 h1).2
 simpa using this.symm
theorem row_holds {α : Type} [Inhabited α] (enc : α → List Value) (k : Nat) (hk : ∀ x, (enc x).length = k) (h0 : 0 < k) {w : World} {g T n : Nat} {cur : Array Value} {d : Array α} (hcur : w.heap[g]? = some (.cells cur T (0, 0))) (hn : d.size = n) (htk : cur.toList.take (n * k) = d.toList.flatMap enc) : HoldsK enc k w g 0 d := by
 intro t ht
 rw [size_flatK] at ht
 refine ⟨?_, blk_frozen hcur _⟩
 rw [flatK_eq enc k hk h0, Nat.zero_add, blk_cell hcur, ← Array.getElem?_toList]
 have hl : t < (d.toList.flatMap enc).length := by rw [flatMap_len enc k hk, Array.length_toList]; exact ht
 have e1 : cur.toList[t]? = (d.toList.flatMap enc)[t]? := by rw [← htk, List.getElem?_take, if_pos (by rw [← hn]; exact ht)]
 rw [e1, List.getElem?_eq_getElem hl, getElem!_pos _ _ (by rw [List.size_toArray]; exact hl)]
 simp
theorem row_sorted {α : Type} [Inhabited α] (enc : α → List Value) (k : Nat) (hk : ∀ x, (enc x).length = k) (h0 : 0 < k) {w : World} {g T n cap : Nat} {cur : Array Value} {d' : Array α} (hcur : w.heap[g]? = some (.cells cur T (0, 0))) (hsz : cur.size = cap * k) (hn : d'.size = n) (hle : n ≤ cap) (m : Nat) (os : Array Obj) :
  (∃ cur', (sortWorldK enc k w g 0 m d' os).heap[g]? = some (.cells cur' T (0, 0)) ∧ cur'.size = cap * k ∧ cur'.toList.take (n * k) = d'.toList.flatMap enc) ∧ Tch (fun i => some g = some i) w (sortWorldK enc k w g 0 m d' os) := by
 have hg := blk_lt hcur
 have hfl := flatK_eq enc k hk h0 d'
 have hfs : (flatK enc k d').size = n * k := by rw [size_flatK, hn]
 have hle2 : n * k ≤ cap * k := Nat.mul_le_mul_right k hle
 constructor
 ·
  refine ⟨putCells id 0 (flatK enc k d') cur, ?_, ?_, ?_⟩
  ·
   show ((w.heap.modify g (onCells (putCells id 0 (flatK enc k d')))) ++ os)[g]? = _
   rw [Array.getElem?_append_left (by simpa using hg), Array.getElem?_modify, if_pos rfl, hcur]
   rfl
  ·
   unfold putCells; rw [Array.size_mapIdx]; exact hsz
  ·
   refine List.ext_getElem? fun t => ?_
   rw [List.getElem?_take]
   by_cases ht : t < n * k
   ·
    rw [if_pos ht]
    unfold putCells
    rw [Array.getElem?_toList, Array.getElem?_mapIdx, Array.getElem?_eq_getElem (by omega)]
    simp only [Option.map_some, Nat.zero_le, Nat.zero_add, Nat.sub_zero, true_and]
    rw [if_pos (by rw [hfs]; exact ht), hfl]
    have hl : t < (d'.toList.flatMap enc).length := by rw [flatMap_len enc k hk, Array.length_toList, hn]; exact ht
    rw [List.getElem?_eq_getElem hl, getElem!_pos (d'.toList.flatMap enc).toArray t hl]
    simp
   ·
    rw [if_neg ht, List.getElem?_eq_none]
    rw [flatMap_len enc k hk, Array.length_toList, hn]; omega
 ·
  refine ⟨rfl, rfl, rfl, ?_, fun i hi hne => ?_⟩
  ·
   show w.heap.size ≤ ((w.heap.modify g (onCells (putCells id 0 (flatK enc k d')))) ++ os).size
   simp
  ·
   show ((w.heap.modify g (onCells (putCells id 0 (flatK enc k d')))) ++ os)[i]? = _
   rw [Array.getElem?_append_left (by simpa using hi), Array.getElem?_modify, if_neg (fun e => hne (by rw [e]))]
end
def sortN (xs : List Node) : List Node := xs.foldl (fun o x => insB x o) []
theorem firstI_lt (a b : Node) : decide (firstI a b < 0) = nodeLt a b := by
 unfold firstI
 cases h : nodeLt a b with
 | true => simp
 | false => cases nodeLt b a <;> simp
instance : Inhabited Node := ⟨⟨⟨0, 0⟩, ⟨0, 0⟩, 0, 0⟩⟩
theorem swoN : Go.Sort.SWO (ltOf firstI) := by
 have e : ltOf firstI = nodeLt := by funext x y; exact firstI_lt x y
 rw [e]
 exact ⟨nodeLt_irrefl, fun _ _ _ h k => nodeLt_trans h k, fun _ _ _ h k => nodeLt_ntrans h k⟩
set_option maxRecDepth 100000 in
theorem sort_call (base g n cap : Nat) (xs : List Node) (w : World) (h : RN w base (.slice (some ⟨g, 0, none⟩) n cap) xs) (hl : xs.length ≤ 1000000) (hu : ∀ x ∈ xs, ∀ y ∈ xs, x.f0 = y.f0 → x = y) :
  Calls Tryz.prog 130 #[.slice (some ⟨g, 0, none⟩) n cap, .func (.func 131) #[] #[]] w fun e w' => e = .returned (.tuple #[]) ∧ RN w' base (.slice (some ⟨g, 0, none⟩) n cap) (sortN xs) ∧ Tch (fun i => some g = some i) w w' := by
 have hn : n = xs.length := (Kd.R_reads' h).1
 obtain ⟨hcl, ho⟩ := cells_of_R h
 rcases ho with ⟨h0, _⟩ | ⟨g', cap', cur, he, hbg, hcur, hle, hmx, hsz, htk⟩
 ·
  cases h0
 rw [← hn] at he
 cases he
 have hds : xs.toArray.size = n := by rw [List.size_toArray]; exact hn.symm
 have hH := row_holds nodeCells 6 (fun _ => rfl) (by decide) (d := xs.toArray) hcur hds (by rw [hn]; exact htk)
 have hcon := Go.Proofs.AnyQ.slices_SortFunc Tryz.sortNode 6 Tryz.isAgg53 Tryz.sizeOf53 nodeCells (fun _ => rfl) (fun x v hv => one_cells [x] v (by simpa [cellsOf] using hv)) firstI swoN 131 #[] g 0 cap xs.toArray w Tryz.call131 (fun m os dk hs x y => first_call x y _) hH (blk_lt hcur) (by rw [hds]; omega)
 rw [hds] at hcon
 refine hcon.mono ?_
 rintro e w' ⟨rfl, d', m, os, hp, hs, rfl⟩
 have hd' : d'.size = n := hp.1.trans hds
 obtain ⟨⟨cur', h1, h2, h3⟩, ht⟩ := row_sorted nodeCells 6 (fun _ => rfl) (by decide) (d' := d') hcur hsz hd' (by rw [hn]; exact hle) m os
 have hperm : d'.toList.Perm xs := by
  have := hp.2.2
  rw [hd'.symm, Array.extract_size, hd', ← hds, Array.extract_size] at this
  exact this
 have hsort : SortedN d'.toList := by
  refine List.pairwise_iff_getElem.2 fun i j hi hj hij => ?_
  have := hs i j (Nat.zero_le _) hij (by rw [Array.length_toList, hd'] at hj; omega)
  rw [Array.length_toList] at hi hj
  rw [getElem!_pos d' j hj, getElem!_pos d' i hi] at this
  rw [← firstI_lt]
  simpa [ltOf] using this
 have heq : d'.toList = sortN xs := by
  have h4 := foldB_perm xs []
  rw [List.append_nil] at h4
  exact sorted_unique (hperm.trans h4.symm) hsort (foldB_sorted xs [] List.Pairwise.nil) (fun x hx y hy e => hu x (hperm.mem_iff.1 hx) y (hperm.mem_iff.1 hy) e)
 have hlen : (sortN xs).length = n := by rw [← heq, Array.length_toList]; exact hd'
 refine ⟨rfl, R_of_cells ⟨by rw [cellsOf_length], .inr ⟨g, cap, cur', by rw [hlen], hbg, h1, by rw [hlen, hn]; exact hle, hmx, h2, ?_⟩⟩ (fun _ _ => trivial), ht⟩
 rw [hlen, h3, heq]
 rfl
end Go.Proofs.YtmbndijbpgobeaaGreat.PWalk
end
section
namespace Go.Proofs.YtmbndijbpgobeaaGreat.PWalk
open Go.RowKit Go.Proofs.YtmbndijbpgobeaaGreatW.PrintWords Go.Proofs.YtmbndijbpgobeaaGreatW.PrintLast Go.Proofs.YtmbndijbpgobeaaGreatW.PrintMore
set_option linter.unusedVariables false
set_option linter.unusedSimpArgs false
open Go.Shelf
attribute [local go_sem] Oper.semAt_some
theorem KpE.grown2 {n : Nat} {E : Nat → Prop} {W W' : World} {row : Option Nat} (h : W.grownBy W' row) (hr : ∀ r, row = some r → r < n → E r) (hn : n ≤ W.heap.size) : KpE n E W W' :=
 ⟨h.size, fun i hi he => h.block i (by omega) (fun e => he (hr i e.symm hi))⟩
set_option maxRecDepth 100000 in
theorem new_call (w : World) : Calls Tryz.prog 126 #[cmpV] w fun e w' => e = .returned (.pointer (some ⟨w.heap.size, 0, none⟩)) ∧ w' = w.alloc (.cells #[cmpV, .slice none 0 0] 173) := by
 have hq := eql_func_nil
 go_enter Tryz.func126, Tryz.ntmps126
 go_wp2
 go_ret
 exact ⟨rfl, rfl⟩
theorem op_append_node {o : Oper} {a : Act} {K : Act → World → Prop} {Q : Exit → Act → World → Prop} {W : World} (base : Nat) (hgd : o.guard = none) (s x : Operand)
  (ho : o.op = .call { callee := .builtin .append, args := #[s, x], argTypes := #[22, 22] }) (v : Value) (xs ys : List Node) (A : Option Addr) (m c : Nat) (hs : a.eval s = v) (hx : a.eval x = .slice A m c)
  (hr : RN W base v xs) (hc : Kd.C k53 W A m ys) (hb : base ≤ W.heap.size) (hl : xs.length + m ≤ 1000000)
  (h : ∀ v1 w1, RN w1 base v1 (xs ++ ys) → W.grownBy w1 v.ownBlock → (v1.ownBlock = v.ownBlock ∨ ∃ b, v1.ownBlock = some b ∧ W.heap.size ≤ b) → K (a.put o.dst v1) w1) : o.wp Tryz.prog a W K Q := by
 have hw : Region.wanted o (yielded #[] a.tmps) = true := by simp [Region.wanted, hgd]
 have := Kd.R_append_rows_step (P := Tryz.prog) (ops := #[]) (Q := Q) (Kc := K) k53 (w0 := W) base hw s x 22 53 (.agg #[(.int .i64 0), (.int .i64 0), (.int .i64 0), (.int .i64 0), (.int .i64 0), (.int .i32 0)]) 48 ho Tryz.underlying22 info53 rfl (by decide) (by decide) v xs ys A m c (fun _ => True) (fun _ => False) hs hx hr hc (fun x cs h => (by rw [k53_open h]; exact k53_mkM _ _ _ x)) (fun _ hk => hk.elim) (fun _ _ => trivial) (Below.refl _ _) hb (by omega)
  (fun v1 w1 h1 _ h3 h4 => h v1 w1 h1 h3 h4)
 rwa [if_pos hw] at this
abbrev boxN (x : Node) : Obj := .cells #[.int .i64 x.f0.f0, .int .i64 x.f0.f1, .int .i64 x.f1.f0, .int .i64 x.f1.f1, .int .i64 x.f2, .int .i32 x.f3] 53 (0, 0)
abbrev boxF (mp : Nat) : Obj := .cells #[.pointer (some ⟨mp, 0, none⟩)] 145 (0, 0)
theorem boxN_C {W : World} {g : Nat} {x : Node} (h : W.heap[g]? = some (boxN x)) : Kd.C k53 W (some ⟨g, 0, none⟩) 1 [x] := by
 refine ⟨rfl, by simp, fun _ => ⟨_, rfl, fun i y hi => ?_⟩⟩
 have h0 : i = 0 := by
  have := (List.getElem?_eq_some_iff.1 hi).1
  simp at this; exact this
 subst h0
 simp at hi
 subst hi
 refine ⟨nodeCells x, rfl, k53.K_of_M (k53_mkM W 0 (fun _ => True) x), fun j u hu => ?_⟩
 rw [show (⟨g, 0, none⟩ : Addr).add (0 * (k53).sz + j) = ⟨g, j, none⟩ by rw [Nat.zero_mul, Nat.zero_add, add_lit, Nat.zero_add]]
 rw [blk_cell h, ← Array.getElem?_toList]
 exact hu
/-- The operations of one round, by what has come up. -/
structure MkF (base : Nat) (W0 : World) (F Nb mp : Nat) (v : Value) (ks : List Dot) (vs : List Value) (fam : Dot → List Node) (x : Node) (l1 l3 l5 l6 l7 l8 : Bool) (g : Nat) (u1 : Value) (V : World) : Prop where
 ord6 : l6 = true → l5 = true
 ord7 : l7 = true → l5 = true ∧ l6 = true
 ord8 : l8 = true → l1 = true ∧ l3 = true ∧ l7 = true
 low : l8 = false → V.heap[F]? = some (boxF mp) ∧ V.heap[Nb]? = some (boxN x)
 pre : l7 = false → Below W0.heap.size W0 V
 ent : l6 = true → l7 = false → W0.heap.size ≤ g ∧ V.heap[g]? = some (boxN x)
 mid : l7 = true → l8 = false → RN V base u1 (fam x.f1 ++ [x]) ∧ Tch (fun i => (getV ks vs x.f1).ownBlock = some i) W0 V ∧ (u1.ownBlock = (getV ks vs x.f1).ownBlock ∨ ∃ b, u1.ownBlock = some b ∧ W0.heap.size ≤ b)
 fin : l8 = true → ∃ v', FamSt base V mp v' (setKs ks x.f1) (setVs ks vs x.f1 u1) (fun e => if e = x.f1 then fam x.f1 ++ [x] else fam e) ∧ Tch (fun i => MapBl mp v i ∨ (getV ks vs x.f1).ownBlock = some i) W0 V
theorem MkF.no7 {base : Nat} {W0 : World} {F Nb mp : Nat} {v : Value} {ks : List Dot} {vs : List Value} {fam : Dot → List Node} {x : Node} {l1 l3 l5 l6 l7 l8 : Bool} {g : Nat} {u1 : Value} {V : World} (h : MkF base W0 F Nb mp v ks vs fam x l1 l3 l5 l6 l7 l8 g u1 V) (hl : l5 = false ∨ l6 = false ∨ l7 = false) : l7 = false ∧ l8 = false := by
 have h7 : l7 = false := by
  cases l7 with
  | false => rfl
  | true =>
   obtain ⟨h1, h2⟩ := h.ord7 rfl
   rcases hl with hl | hl | hl
   ·
    rw [hl] at h1; cases h1
   ·
    rw [hl] at h2; cases h2
   ·
    cases hl
 refine ⟨h7, ?_⟩
 cases l8 with
 | false => rfl
 | true => have := (h.ord8 rfl).2.2; rw [h7] at this; cases this
theorem MkF.no8 {base : Nat} {W0 : World} {F Nb mp : Nat} {v : Value} {ks : List Dot} {vs : List Value} {fam : Dot → List Node} {x : Node} {l1 l3 l5 l6 l7 l8 : Bool} {g : Nat} {u1 : Value} {V : World} (h : MkF base W0 F Nb mp v ks vs fam x l1 l3 l5 l6 l7 l8 g u1 V) (hl : l1 = false ∨ l3 = false) : l8 = false := by
 cases l8 with
 | false => rfl
 | true =>
  obtain ⟨h1, h2, _⟩ := h.ord8 rfl
  rcases hl with hl | hl
  ·
   rw [hl] at h1; cases h1
  ·
   rw [hl] at h2; cases h2
/-- What Set leaves behind, after the append. -/
theorem mk_set {base mp : Nat} {v : Value} {ks : List Dot} {vs : List Value} {fam : Dot → List Node} {x : Node} {u1 : Value} {Au : Option Addr} {nu cu : Nat} {W0 V V' : World} {v' : Value} (hu1 : u1 = .slice Au nu cu) (hF : FamSt base W0 mp v ks vs fam)
  (hr : RN V base u1 (fam x.f1 ++ [x])) (ht : Tch (fun i => (getV ks vs x.f1).ownBlock = some i) W0 V) (hub : u1.ownBlock = (getV ks vs x.f1).ownBlock ∨ ∃ b, u1.ownBlock = some b ∧ W0.heap.size ≤ b)
  (hm : MapSt base V' mp v' (setKs ks x.f1) (setVs ks vs x.f1 u1)) (ht2 : Tch (MapBl mp v) V V') :
  FamSt base V' mp v' (setKs ks x.f1) (setVs ks vs x.f1 u1) (fun e => if e = x.f1 then fam x.f1 ++ [x] else fam e) ∧ Tch (fun i => MapBl mp v i ∨ (getV ks vs x.f1).ownBlock = some i) W0 V' := by
 have hnot : ∀ g, g < V.heap.size → (∃ cur, V.heap[g]? = some (.cells cur 53 (0, 0))) → ¬ MapBl mp v g := by
  rintro g hg ⟨cur, hc⟩ (rfl | e)
  ·
   have hmp := hF.map.map
   have := ht.block g (blk_lt hmp) (fun e => by
    obtain ⟨_, cur2, h2⟩ := (hF.getR x.f1).block e
    rw [hmp] at h2
    exact absurd (Obj.cells.inj (Option.some.inj h2)).2.1 (by decide))
   rw [this, hmp] at hc
   exact absurd (Obj.cells.inj (Option.some.inj hc)).2.1 (by decide)
  ·
   rcases hF.map.row.2 with ⟨rfl, _⟩ | ⟨g', c, cur', rfl, _, hcur, _⟩
   ·
    cases e
   ·
    cases e
    have := ht.block g' (blk_lt hcur) (fun e => by
     obtain ⟨_, cur2, h2⟩ := (hF.getR x.f1).block e
     rw [hcur] at h2
     exact absurd (Obj.cells.inj (Option.some.inj h2)).2.1 (by decide))
    rw [show (⟨g', 0, none⟩ : Addr).block = g' from rfl] at hc
    rw [this, hcur] at hc
    exact absurd (Obj.cells.inj (Option.some.inj hc)).2.1 (by decide)
 refine ⟨hF.set hm (hr.keep fun g hg => ?_) (fun g hg hne hc => ?_) hub, (ht.mono fun i _ h => Or.inr h).trans (ht2.mono fun i _ h => Or.inl h) (fun i _ h => h)⟩
 ·
  exact ht2.block g (hr.lt hg) (hnot g (hr.lt hg) (hr.block hg).2)
 ·
  have h1 := ht.block g hg hne
  refine (ht2.block g (Nat.lt_of_lt_of_le hg ht.size) (hnot g (Nat.lt_of_lt_of_le hg ht.size) ?_)).trans h1
  obtain ⟨cur, hc⟩ := hc
  exact ⟨cur, h1.trans hc⟩
def famOf (l : List Node) (d : Dot) : List Node := l.filter fun x => decide (x.f1 = d)
theorem famOf_succ {l : List Node} {m : Nat} {x : Node} (h : l[m]? = some x) : famOf (l.take (m + 1)) = fun e => if e = x.f1 then famOf (l.take m) x.f1 ++ [x] else famOf (l.take m) e := by
 have hm : m < l.length := (List.getElem?_eq_some_iff.1 h).1
 have hx := (List.getElem?_eq_some_iff.1 h).2
 funext e
 unfold famOf
 rw [List.take_succ_eq_append_getElem hm, hx, List.filter_append]
 by_cases he : e = x.f1
 ·
  subst he; rw [if_pos rfl]; simp
 ·
  have hne : ¬ x.f1 = e := fun h => he h.symm
  rw [if_neg he]; simp [hne]
theorem FamSt.mapT {base : Nat} {W V : World} {mp : Nat} {v : Value} {ks : List Dot} {vs : List Value} {fam : Dot → List Node} (h : FamSt base W mp v ks vs fam) {d : Dot} (ht : Tch (fun i => (getV ks vs d).ownBlock = some i) W V) : MapSt base V mp v ks vs := by
 have hno : ∀ i, MapBl mp v i → (getV ks vs d).ownBlock ≠ some i := fun i hi e => by
  obtain ⟨_, cur, hc⟩ := (h.getR d).block e
  exact h.map.not_row hc hi
 refine h.map.keep (ht.block mp (blk_lt h.map.map) (hno mp (.inl rfl))) (fun g hg => ht.block g ?_ (hno g (.inr hg)))
 rcases h.map.row.2 with ⟨rfl, _⟩ | ⟨g', c, cur, rfl, _, hcur, _⟩
 ·
  cases hg
 ·
  cases hg; exact blk_lt hcur
theorem mk_app {base : Nat} {W0 : World} {F Nb mp : Nat} {v : Value} {ks : List Dot} {vs : List Value} {fam : Dot → List Node} {x : Node} {l1 l3 : Bool} {g : Nat} {u u0 v1 : Value} {V w1 : World} (hu : u = getV ks vs x.f1) (hR : RN W0 base u (fam x.f1)) (hN : ∀ q, u.ownBlock = some q → q ≠ Nb)
  (h : MkF base W0 F Nb mp v ks vs fam x l1 l3 true true false false g u0 V) (hr1 : RN w1 base v1 (fam x.f1 ++ [x])) (hg1 : V.grownBy w1 u.ownBlock) (hb1 : v1.ownBlock = u.ownBlock ∨ ∃ b, v1.ownBlock = some b ∧ V.heap.size ≤ b) :
  MkF base W0 F Nb mp v ks vs fam x l1 l3 true true true false g v1 w1 := by
 subst hu
 have hpre := h.pre rfl
 obtain ⟨hf, hn⟩ := h.low rfl
 refine ⟨fun _ => rfl, fun _ => ⟨rfl, rfl⟩, fun h => (by cases h), fun _ => ⟨(hg1.block F (blk_lt hf) (fun e => ?_)).trans hf, (hg1.block Nb (blk_lt hn) (fun e => hN Nb e.symm rfl)).trans hn⟩, fun h => (by cases h), fun _ h => (by cases h), fun _ _ => ⟨hr1, (Tch.below hpre).trans (Tch.grown hg1 (fun r e => e)) (fun i _ e => e), hb1.imp id fun ⟨b, e, hb⟩ => ⟨b, e, Nat.le_trans hpre.size hb⟩⟩, fun h => (by cases h)⟩
 obtain ⟨_, cur, hc⟩ := hR.block e.symm
 have h2 := (hpre.block F (blk_lt hc)).trans hc
 rw [hf] at h2
 exact absurd (Obj.cells.inj (Option.some.inj h2)).2.1 (by decide)
theorem setKs_le (ks : List Dot) (d : Dot) : (setKs ks d).length ≤ ks.length + 1 := by
 by_cases h : hasK ks d = true
 ·
  unfold setKs; rw [if_pos h]; omega
 ·
  exact Nat.le_of_eq (setKs_len (by simpa using h))
theorem FamSt.far {base : Nat} {W : World} {mp : Nat} {v : Value} {ks : List Dot} {vs : List Value} {fam : Dot → List Node} (h : FamSt base W mp v ks vs fam) {q : Nat} {cells : Array Value} {t : Nat} (hq : W.heap[q]? = some (.cells cells t (0, 0))) (ht : t ≠ 173 ∧ t ≠ 176 ∧ t ≠ 53) (d : Dot) : ¬ (MapBl mp v q ∨ (getV ks vs d).ownBlock = some q) := by
 rintro ((rfl | e) | e)
 ·
  rw [h.map.map] at hq
  exact ht.1 (Obj.cells.inj (Option.some.inj hq)).2.1.symm
 ·
  rcases h.map.row.2 with ⟨rfl, _⟩ | ⟨g', c, cur', rfl, _, hcur, _⟩
  ·
   cases e
  ·
   cases e
   rw [hcur] at hq
   exact ht.2.1 (Obj.cells.inj (Option.some.inj hq)).2.1.symm
 ·
  obtain ⟨_, cur, hc⟩ := (h.getR d).block e
  rw [hc] at hq
  exact ht.2.2 (Obj.cells.inj (Option.some.inj hq)).2.1.symm
theorem FamSt.base_le {base : Nat} {W : World} {mp : Nat} {v : Value} {ks : List Dot} {vs : List Value} {fam : Dot → List Node} (h : FamSt base W mp v ks vs fam) {d : Dot} {i : Nat} (hi : MapBl mp v i ∨ (getV ks vs d).ownBlock = some i) : base ≤ i :=
 hi.elim (h.map.base_le ·) (fun e => ((h.getR d).block e).1)
theorem nodup_inj {α : Type} {l : List α} (h : l.Nodup) {i j : Nat} {a : α} (hi : l[i]? = some a) (hj : l[j]? = some a) : i = j := by
 obtain ⟨h1, h2⟩ := List.getElem?_eq_some_iff.1 hi
 obtain ⟨h3, h4⟩ := List.getElem?_eq_some_iff.1 hj
 have hp := List.pairwise_iff_getElem.1 h
 rcases Nat.lt_trichotomy i j with hl | hl | hl
 ·
  exact absurd (h2.trans h4.symm) (hp i j h1 h3 hl)
 ·
  exact hl
 ·
  exact absurd (h4.trans h2.symm) (hp j i h3 h1 hl)
theorem famOf_ne {l : List Node} {m : Nat} {x : Node} (h : l[m]? = some x) {ks : List Dot} (hk : ∀ d ∈ ks, famOf (l.take m) d ≠ []) : ∀ d ∈ setKs ks x.f1, famOf (l.take (m + 1)) d ≠ [] := by
 intro d hd
 rw [famOf_succ h]
 show (if d = x.f1 then _ else _) ≠ _
 by_cases he : d = x.f1
 ·
  rw [if_pos he]; simp
 ·
  rw [if_neg he]
  refine hk d ?_
  unfold setKs at hd
  split at hd
  ·
   exact hd
  ·
   rcases List.mem_append.1 hd with hd | hd
   ·
    exact List.mem_of_mem_take hd
   ·
    rcases List.mem_cons.1 hd with hd | hd
    ·
     exact absurd hd he
    ·
     exact List.mem_of_mem_drop hd
theorem FamSt.cells {base : Nat} {W V : World} {mp : Nat} {v : Value} {ks : List Dot} {vs : List Value} {fam : Dot → List Node} (h : FamSt base W mp v ks vs fam) (hk : ∀ (q : Nat) (cells : Array Value) (t : Nat), t ≠ 145 → W.heap[q]? = some (Obj.cells cells t (0, 0)) → V.heap[q]? = W.heap[q]?) : FamSt base V mp v ks vs fam := by
 refine ⟨h.map.keep (hk mp _ _ (by decide) h.map.map) (fun g hgg => ?_), fun d u hm => (h.rows d u hm).keep (fun g hgg => ?_), h.sep, h.none⟩
 ·
  rcases h.map.row.2 with ⟨rfl, _⟩ | ⟨g', c, cur, rfl, _, hcur, _⟩
  ·
   cases hgg
  ·
   cases hgg; exact hk _ _ _ (by decide) hcur
 ·
  obtain ⟨_, cur, hcur⟩ := (h.rows d u hm).block hgg
  exact hk _ _ _ (by decide) hcur
/-- One row is turned. -/
theorem FamSt.turn {base : Nat} {W V : World} {mp : Nat} {v : Value} {ks : List Dot} {vs : List Value} {fam : Dot → List Node} (h : FamSt base W mp v ks vs fam) {d : Dot} {u : Value} {ys : List Node} {k : Nat}
  (hk : ks[k]? = some d) (hv : vs[k]? = some u) (hu : RN V base u ys) (ht : Tch (fun i => u.ownBlock = some i) W V) : FamSt base V mp v ks vs (fun e => if e = d then ys else fam e) := by
 have hm : (d, u) ∈ ks.zip vs := List.mem_of_getElem? (i := k) (by rw [List.getElem?_zip_eq_some]; exact ⟨hk, hv⟩)
 have hr := h.rows d u hm
 have hnd := incB_nodup h.map.inc
 have hno : ∀ i, MapBl mp v i → u.ownBlock ≠ some i := fun i hi e => by
  obtain ⟨_, cur, hc⟩ := hr.block e
  exact h.map.not_row hc hi
 have hat : ∀ e a, (e, a) ∈ ks.zip vs → e ≠ d → Sep u a := by
  intro e a hea hed
  obtain ⟨j, hj⟩ := List.getElem?_of_mem hea
  rw [List.getElem?_zip_eq_some] at hj
  have hjk : j ≠ k := fun e => by subst e; rw [hk] at hj; exact hed (Option.some.inj hj.1).symm
  obtain ⟨hk1, hk2⟩ := List.getElem?_eq_some_iff.1 hv
  obtain ⟨hj1, hj2⟩ := List.getElem?_eq_some_iff.1 hj.2
  have hp := List.pairwise_iff_getElem.1 h.sep
  rcases Nat.lt_or_gt_of_ne hjk with hl | hl
  ·
   have := hp j k hj1 hk1 hl
   rw [hk2, hj2] at this
   exact this.symm
  ·
   have := hp k j hk1 hj1 hl
   rw [hk2, hj2] at this
   exact this
 have hsame : ∀ a, (d, a) ∈ ks.zip vs → a = u := by
  intro a ha
  obtain ⟨j, hj⟩ := List.getElem?_of_mem ha
  rw [List.getElem?_zip_eq_some] at hj
  have : j = k := nodup_inj hnd hj.1 hk
  subst this
  rw [hv] at hj
  exact (Option.some.inj hj.2).symm
 refine ⟨h.map.keep (ht.block mp (blk_lt h.map.map) (hno mp (.inl rfl))) (fun g hg => ht.block g ?_ (hno g (.inr hg))), ?_, h.sep, ?_⟩
 ·
  rcases h.map.row.2 with ⟨rfl, _⟩ | ⟨g', c, cur, rfl, _, hcur, _⟩
  ·
   cases hg
  ·
   cases hg; exact blk_lt hcur
 ·
  intro e a hea
  show RN V base a (if e = d then ys else fam e)
  by_cases he : e = d
  ·
   subst he
   rw [if_pos rfl, hsame a hea]; exact hu
  ·
   rw [if_neg he]
   have h1 := h.rows e a hea
   exact h1.keep fun g hg => ht.block g (h1.lt hg) (fun e' => hat e a hea he g e' hg)
 ·
  intro e he
  show (if e = d then ys else fam e) = []
  rw [if_neg (fun e' => he (by rw [e']; exact List.mem_of_getElem? hk))]
  exact h.none e he
def famK (l : List Node) (ks : List Dot) (k : Nat) (d : Dot) : List Node := if d ∈ ks.take k then sortN (famOf l d) else famOf l d
theorem famK_succ {l : List Node} {ks : List Dot} {k : Nat} {d : Dot} (h : ks[k]? = some d) : famK l ks (k + 1) = fun e => if e = d then sortN (famOf l d) else famK l ks k e := by
 have hk := (List.getElem?_eq_some_iff.1 h).1
 have hd := (List.getElem?_eq_some_iff.1 h).2
 funext e
 unfold famK
 rw [List.take_succ_eq_append_getElem hk, hd]
 by_cases he : e = d
 ·
  subst he; rw [if_pos rfl, if_pos (by simp)]
 ·
  rw [if_neg he]
  by_cases hm : e ∈ ks.take k
  ·
   rw [if_pos hm, if_pos (List.mem_append_left _ hm)]
  ·
   rw [if_neg hm, if_neg (by simp [hm, he])]
theorem famK_at {l : List Node} {ks : List Dot} {k : Nat} {d : Dot} (hi : ks.Nodup) (h : ks[k]? = some d) : famK l ks k d = famOf l d := by
 unfold famK
 rw [if_neg]
 intro hm
 obtain ⟨j, hj⟩ := List.getElem?_of_mem hm
 rw [List.getElem?_take] at hj
 split at hj
 ·
  rename_i hjk
  have := nodup_inj hi hj h
  omega
 ·
  cases hj
theorem leaves_of_marks2 {P : Program} {fn : Func} {tmps : Array Value} {R : Ending → World → Prop} {n0 n : Nat} : ∀ (ds : List Deferred) (W : World), Marks n0 ds W → (∀ W', OnlyMarks n0 W W' → ∃ v, (results fn tmps).run P W' = .ok v W' ∧ R (.returned v) W') → LeavesInM Fence.wide n P fn tmps R ds .returning W := by
 intro ds
 induction ds with
 | nil => intro W _ hR; obtain ⟨v, h1, h2⟩ := hR W (OnlyMarks.refl _ _); exact ⟨v, h1, h2⟩
 | cons d ds ih =>
  intro W hm hR
  obtain ⟨Ds, he, h1, h2⟩ := hm
  cases Ds with
  | nil => simp at he
  | cons D Ds =>
   simp only [List.map_cons, List.cons.injEq] at he
   obtain ⟨rfl, rfl⟩ := he
   obtain ⟨hD, hW⟩ := h2 D List.mem_cons_self
   refine ⟨by simp, .inl ⟨D, _, rfl, run_takeDeferred hW, ?_⟩⟩
   refine ih _ ⟨Ds, rfl, (List.nodup_cons.1 h1).2, fun E hE => ?_⟩ (fun W' hW' => hR W' (hW'.step hD hW))
   obtain ⟨e1, e2⟩ := h2 E (List.mem_cons_of_mem _ hE)
   exact ⟨e1, (World.putObj_heap_other (fun e => by subst e; exact (List.nodup_cons.1 h1).1 hE)).trans e2⟩
theorem below_setCell {w W : World} (h : Below w.heap.size w W) {g : Nat} (hg : w.heap.size ≤ g) (i : Nat) (v : Value) : Below w.heap.size w (W.setCell ⟨g, i, none⟩ v) :=
 h.grown (row := some g) ⟨rfl, rfl, rfl, by rw [World.size_setCell]; exact Nat.le_refl _, fun k hk hne => Below.heap_setCell W _ _ k (fun e => hne (by rw [e]))⟩ h.size (fun j e => by cases e; exact hg)
def madeInv (base : Nat) (W0 : World) (A0 : Option Addr) (n c0 RC F Nb mp : Nat) (v : Value) (ks : List Dot) (vs : List Value) (fam : Dot → List Node) (x : Node) (u : Value) (z7 z8 z9 z10 z11 z12 z13 z14 z15 z16 z17 z18 z19 z20 z21 z22 z23 z24 z25 z26 z27 z28 z29 z30 z31 z32 z33 z34 z35 z36 z37 z38 z39 z40 z41 z42 z43 : Value) (L : Array Bool) (ac : Act) (V : World) : Prop := ∃ (l0 l1 l2 l3 l4 l5 l6 l7 l8 : Bool) (g : Nat) (u1 : Value) (rr : Value), L = #[l0, l1, l2, l3, l4, l5, l6, l7, l8] ∧ ac = { tmps := #[.slice A0 n c0, undef, .pointer (some ⟨RC, 0, none⟩), .pointer (some ⟨F, 0, none⟩), undef, .pointer (some ⟨Nb, 0, none⟩), u, z7, z8, z9, z10, z11, z12, z13, z14, z15, z16, z17, z18, z19, z20, z21, z22, z23, z24, z25, selv l0 (.pointer (some ⟨F, 0, none⟩)) (z26), selv l1 (.pointer (some ⟨mp, 0, none⟩)) (z27), selv l2 (.pointer (some ⟨Nb, 2, none⟩)) (z28), selv l3 (vDot x.f1) (z29), selv l4 (u) (z30), selv l5 (vNode x) (z31), selv l6 (.slice (some ⟨g, 0, none⟩) 1 1) (z32), selv l7 (u1) (z33), selv l8 (rr) (z34), z35, z36, z37, z38, z39, z40, z41, z42, z43], defers := [] } ∧ Aside0 (MkF base W0 F Nb mp v ks vs fam x l1 l3 l5 l6 l7 l8 g u1 V)
set_option maxHeartbeats 2000000 in
set_option maxRecDepth 100000 in
theorem made_walk (A0 : Option Addr) (c0 : Nat) (l0 : List Node) (w : World) (hr0 : Kd.C k53 w A0 l0.length l0) (hc0 : l0.length ≤ c0) (hl : l0.length ≤ 1000000) (huq : ∀ x ∈ l0, ∀ y ∈ l0, x.f0 = y.f0 → x = y) :
  Calls Tryz.prog 118 #[.slice A0 l0.length c0] w fun e w' => ∃ mp, e = .returned (.agg #[.pointer (some ⟨mp, 0, none⟩)]) ∧ (∃ v ks vs, FamSt w.heap.size w' mp v ks vs (kids l0)) ∧ Below w.heap.size w w' := by
 have HR := Aside0.mk hr0
 have HC := Aside0.mk hc0
 have HL := Aside0.mk hl
 have HUQ := Aside0.mk huq
 clear hr0 hc0 hl huq
 obtain ⟨n, Hn⟩ : ∃ n, Aside0 (l0.length = n) := ⟨_, ⟨rfl⟩⟩
 rw [Hn.out]
 refine calls_of_wp_m Tryz.func118 rfl ?_
 simp only [Tryz.ntmps118, List.size_toArray, List.length_cons, List.length_nil, Nat.reduceAdd, Nat.reduceSub, Array.replicate_succ, Array.replicate_zero, List.push_toArray, List.append_toArray, List.nil_append, List.cons_append]
 go_wp2_with fail
 refine (new_call _).mono ?_
 rintro e w1 ⟨rfl, rfl⟩
 go_wp2_with fail
 have hmp0 : (((w.alloc (.cells #[.pointer none] 145 (0, 0))).alloc (.cells #[cmpV, .slice none 0 0] 173 (0, 0))).alloc (.cells #[.pointer (some ⟨w.heap.size + 1, 0, none⟩)] 145 (0, 0))).heap[w.heap.size + 1]? = some (.cells #[cmpV, .slice none 0 0] 173 (0, 0)) := blk_alloc (by have := blk_new (w.alloc (.cells #[.pointer none] 145 (0, 0))) (.cells #[cmpV, .slice none 0 0] 173 (0, 0)); rwa [World.size_alloc] at this) _
 have hF0 : (((w.alloc (.cells #[.pointer none] 145 (0, 0))).alloc (.cells #[cmpV, .slice none 0 0] 173 (0, 0))).alloc (.cells #[.pointer (some ⟨w.heap.size + 1, 0, none⟩)] 145 (0, 0))).heap[w.heap.size + 1 + 1]? = some (.cells #[.pointer (some ⟨w.heap.size + 1, 0, none⟩)] 145 (0, 0)) := by have := blk_new ((w.alloc (.cells #[.pointer none] 145 (0, 0))).alloc (.cells #[cmpV, .slice none 0 0] 173 (0, 0))) (.cells #[.pointer (some ⟨w.heap.size + 1, 0, none⟩)] 145 (0, 0)); rwa [World.size_alloc, World.size_alloc] at this
 have hRC0 : (((w.alloc (.cells #[.pointer none] 145 (0, 0))).alloc (.cells #[cmpV, .slice none 0 0] 173 (0, 0))).alloc (.cells #[.pointer (some ⟨w.heap.size + 1, 0, none⟩)] 145 (0, 0))).heap[w.heap.size]? = some (.cells #[.pointer none] 145 (0, 0)) := blk_alloc (blk_alloc (blk_new _ _) _) _
 have hB0 : Below w.heap.size w (((w.alloc (.cells #[.pointer none] 145 (0, 0))).alloc (.cells #[cmpV, .slice none 0 0] 173 (0, 0))).alloc (.cells #[.pointer (some ⟨w.heap.size + 1, 0, none⟩)] 145 (0, 0))) := below_alloc (below_alloc (below_alloc (Below.refl _ _) _) _) _
 have hFam0 : FamSt w.heap.size (((w.alloc (.cells #[.pointer none] 145 (0, 0))).alloc (.cells #[cmpV, .slice none 0 0] 173 (0, 0))).alloc (.cells #[.pointer (some ⟨w.heap.size + 1, 0, none⟩)] 145 (0, 0))) (w.heap.size + 1) (.slice none 0 0) [] [] (famOf (l0.take 0)) :=
  ⟨⟨hmp0, by omega, ⟨rfl, .inl ⟨rfl, rfl⟩⟩, rfl, by simp, fun v hv => (by cases hv), rfl⟩, fun d u h => (by cases h), List.Pairwise.nil, fun d _ => rfl⟩
 have HF0 := Aside0.mk hF0
 have HRC0 := Aside0.mk hRC0
 have HB0 := Aside0.mk hB0
 have HFam0 := Aside0.mk hFam0
 clear hmp0 hF0 hRC0 hB0 hFam0
 generalize ((w.alloc (.cells #[.pointer none] 145 (0, 0))).alloc (.cells #[cmpV, .slice none 0 0] 173 (0, 0))).alloc (.cells #[.pointer (some ⟨w.heap.size + 1, 0, none⟩)] 145 (0, 0)) = Wa at *
 obtain ⟨mp, Hmp⟩ : ∃ mp, Aside0 (w.heap.size + 1 = mp) := ⟨_, ⟨rfl⟩⟩
 obtain ⟨F, HFe⟩ : ∃ F, Aside0 (w.heap.size + 1 + 1 = F) := ⟨_, ⟨rfl⟩⟩
 obtain ⟨RC, HRCe⟩ : ∃ RC, Aside0 (w.heap.size = RC) := ⟨_, ⟨rfl⟩⟩
 rw [HFe.out] at HF0
 rw [Hmp.out] at HF0 HFam0
 rw [HRCe.out] at HRC0
 rw [HFe.out, Hmp.out]
 rw [show (Value.pointer (some { block := w.heap.size, off := 0 })) = .pointer (some ⟨RC, 0, none⟩) by rw [HRCe.out]]
 go_loopw [14] (fun i wr => ∃ m : Nat, m ≤ n ∧ i = .int .i64 m ∧ Aside0 (∃ v ks vs, FamSt w.heap.size wr mp v ks vs (famOf (l0.take m)) ∧ ks.length ≤ m ∧ ∀ d ∈ ks, famOf (l0.take m) d ≠ []) ∧ Aside0 (wr.heap[F]? = some (boxF mp)) ∧ Aside0 (wr.heap[RC]? = some (.cells #[.pointer none] 145 (0, 0))) ∧ Aside0 (Below w.heap.size w wr)) (fun i _ => n - (intOf i).toNat)
 case atStart => exact ⟨0, Nat.zero_le _, rfl, ⟨_, _, _, HFam0.out, Nat.le_refl _, fun d hd => (by cases hd)⟩, HF0, HRC0, HB0⟩
 case round =>
  obtain ⟨m, hm, rfl, HFAM, HF, HRC, HB⟩ := hrel
  clear HFam0 HF0 HRC0 HB0
  by_cases hlt : m < n
  ·
   have hltb : decide ((m : Int) < (n : Int)) = true := decide_eq_true (by omega)
   have hml : m < l0.length := by have := Hn.out; omega
   obtain ⟨x, Hx⟩ : ∃ x, Aside0 (l0[m]? = some x) := ⟨_, ⟨List.getElem?_eq_getElem hml⟩⟩
   obtain ⟨ad, e, g0, g1, g2, g3, g4, g5⟩ := node_at HR.out HB.out m x Hx.out
   subst e
   obtain ⟨v, ks, vs, hfam, hkl, hne⟩ := HFAM.out
   have HFM := Aside0.mk hfam
   have HKL0 := Aside0.mk hkl
   have HNE := Aside0.mk hne
   clear hfam hkl hne HFAM
   have hcF : (wr.alloc (boxN x)).cell? ⟨F, 0, none⟩ = _ := (blk_cell (blk_alloc HF.out _) 0).trans rfl
   have HFM1 := Aside0.mk (HFM.out.below (Gr.alloc wr (boxN x)).below)
   have HBN1 := Aside0.mk (blk_new wr (boxN x))
   have HB1 := Aside0.mk (below_alloc HB.out (boxN x))
   have HBF1 := Aside0.mk (blk_alloc HF.out (boxN x))
   have HRC1 := Aside0.mk (blk_alloc HRC.out (boxN x))
   have HNB : Aside0 (∀ d q, (getV ks vs d).ownBlock = some q → q ≠ wr.heap.size) := ⟨fun d q e => by have := (HFM.out.getR d).lt e; omega⟩
   have HNW : Aside0 (w.heap.size ≤ wr.heap.size) := ⟨HB.out.size⟩
   go_wp2_with fail
   clear hcF g0 g1 g2 g3 g4 g5
   obtain ⟨A, c, hv, hents⟩ := HFM1.out.map.ents
   have hget := get_call mp ks vs A ks.length c x.f1 _ HFM1.out.map.inc hents (by rw [← hv]; exact HFM1.out.map.map)
   refine hget.mono ?_
   clear hget hv hents
   rintro e W0 ⟨rfl, hb⟩
   have HFM := Aside0.mk (HFM1.out.below hb)
   have HBN := Aside0.mk (blk_keep HBN1.out hb)
   have HBF := Aside0.mk (blk_keep HBF1.out hb)
   have HRC := Aside0.mk (blk_keep HRC1.out hb)
   have HB := Aside0.mk (below_more HB1.out hb)
   clear hb HFM1 HBN1 HBF1 HRC1 HB1 HF
   obtain ⟨Nb, HNe⟩ : ∃ Nb, Aside0 (wr.heap.size = Nb) := ⟨_, ⟨rfl⟩⟩
   obtain ⟨u, HUV⟩ : ∃ u, Aside0 (u = getV ks vs x.f1) := ⟨_, ⟨rfl⟩⟩
   obtain ⟨fam, HFa⟩ : ∃ fam, Aside0 (famOf (l0.take m) = fam) := ⟨_, ⟨rfl⟩⟩
   rw [HNe.out] at HBN HNB ⊢
   rw [HFa.out] at HFM
   rw [← HUV.out]
   have HR1 : Aside0 (RN W0 w.heap.size u (fam x.f1)) := ⟨by rw [HUV.out]; exact HFM.out.getR x.f1⟩
   have HUN : Aside0 (∀ q, u.ownBlock = some q → q ≠ Nb) := ⟨by rw [HUV.out]; exact HNB.out x.f1⟩
   have HBW : Aside0 (w.heap.size ≤ W0.heap.size) := ⟨HB.out.size⟩
   have HLF : Aside0 ((fam x.f1).length + 1 ≤ 1000000) := ⟨by
    have h1 : (famOf (l0.take m) x.f1).length ≤ (l0.take m).length := List.length_filter_le _ _
    rw [HFa.out, List.length_take] at h1
    have := HL.out
    omega⟩
   have HKL : Aside0 (ks.length < 1000000) := ⟨by have := HKL0.out; have := HL.out; omega⟩
   obtain ⟨Au, nu, cu, hu⟩ : ∃ A n c, u = .slice A n c := by
    obtain ⟨A, c, e⟩ := Kd.R_slice HR1.out
    exact ⟨_, _, _, e⟩
   rw [hu]
   go_wp2_with fail
   rw [← hu]
   clear hu
   refine AnyOrder.wp_region (by kernel_rfl) (madeInv w.heap.size W0 (some ad) n c0 RC F Nb mp v ks vs fam x u _ _ _ _ _ _ _ _ _ _ _ _ _ _ _ _ _ _ _ _ _ _ _ _ _ _ _ _ _ _ _ _ _ _ _ _ _) ⟨false, false, false, false, false, false, false, false, false, 0, undef, undef, rfl, rfl, ⟨⟨fun h => (by cases h), fun h => (by cases h), fun h => (by cases h), fun _ => ⟨blk_drew HBF.out, blk_drew HBN.out⟩, fun _ => below_drew1 (Below.refl _ _), fun h => (by cases h), fun h => (by cases h), fun h => (by cases h)⟩⟩⟩ ?step ?last
   case step =>
    rintro L ac V i ⟨l0, l1, l2, l3, l4, l5, l6, l7, l8, g, u1, rr, rfl, rfl, HF⟩ hi K hK
    have h1 : i = 0 ∨ i = 1 ∨ i = 2 ∨ i = 3 ∨ i = 4 ∨ i = 5 ∨ i = 6 ∨ i = 7 ∨ i = 8 := by
     have h1 := (AnyOrder.mem_ready hi).1
     clear hi hK
     change i < 9 at h1
     omega
    rcases h1 with rfl | rfl | rfl | rfl | rfl | rfl | rfl | rfl | rfl
    ·
     obtain rfl : l0 = false := (AnyOrder.mem_ready hi).2.1
     clear hi
     refine AnyOrder.wpOp_go rfl (by rfl) ?_
     go_wp2_with fail
     exact ⟨true, l1, l2, l3, l4, l5, l6, l7, l8, g, u1, rr, rfl, rfl, HF⟩
    ·
     obtain rfl : l1 = false := (AnyOrder.mem_ready hi).2.1
     obtain rfl : l0 = true := AnyOrder.dep (q := 0) hi rfl rfl rfl
     clear hi
     simp only [sel_true, selv_true] at hK ⊢
     obtain rfl := HF.out.no8 (.inl rfl)
     (try simp only [sel_false, selv_false] at hK ⊢)
     have cf : V.cell? ⟨F, 0, none⟩ = _ := (blk_cell (HF.out.low rfl).1 0).trans rfl
     refine AnyOrder.wpOp_go rfl (by rfl) ?_
     go_wp2_with fail
     exact ⟨true, true, l2, l3, l4, l5, l6, l7, false, g, u1, rr, rfl, rfl, ⟨⟨HF.out.ord6, HF.out.ord7, fun h => (by cases h), HF.out.low, HF.out.pre, HF.out.ent, HF.out.mid, fun h => (by cases h)⟩⟩⟩
    ·
     obtain rfl : l2 = false := (AnyOrder.mem_ready hi).2.1
     clear hi
     refine AnyOrder.wpOp_go rfl (by rfl) ?_
     go_wp2_with fail
     exact ⟨l0, l1, true, l3, l4, l5, l6, l7, l8, g, u1, rr, rfl, rfl, HF⟩
    ·
     obtain rfl : l3 = false := (AnyOrder.mem_ready hi).2.1
     obtain rfl : l2 = true := AnyOrder.dep (q := 0) hi rfl rfl rfl
     clear hi
     simp only [sel_true, selv_true] at hK ⊢
     obtain rfl := HF.out.no8 (.inr rfl)
     (try simp only [sel_false, selv_false] at hK ⊢)
     have cn2 : V.cell? ⟨Nb, 2, none⟩ = _ := (blk_cell (HF.out.low rfl).2 2).trans rfl
     have cn3 : V.cell? ⟨Nb, 3, none⟩ = _ := (blk_cell (HF.out.low rfl).2 3).trans rfl
     refine AnyOrder.wpOp_go rfl (by rfl) ?_
     go_wp2_with fail
     exact ⟨l0, l1, true, true, l4, l5, l6, l7, false, g, u1, rr, rfl, rfl, ⟨⟨HF.out.ord6, HF.out.ord7, fun h => (by cases h), HF.out.low, HF.out.pre, HF.out.ent, HF.out.mid, fun h => (by cases h)⟩⟩⟩
    ·
     obtain rfl : l4 = false := (AnyOrder.mem_ready hi).2.1
     clear hi
     refine AnyOrder.wpOp_go rfl (by rfl) ?_
     go_wp2_with fail
     exact ⟨l0, l1, l2, l3, true, l5, l6, l7, l8, g, u1, rr, rfl, rfl, HF⟩
    ·
     obtain rfl : l5 = false := (AnyOrder.mem_ready hi).2.1
     clear hi
     obtain ⟨rfl, rfl⟩ := HF.out.no7 (.inl rfl)
     (try simp only [sel_false, selv_false] at hK ⊢)
     have cn0 : V.cell? ⟨Nb, 0, none⟩ = _ := (blk_cell (HF.out.low rfl).2 0).trans rfl
     have cn1 : V.cell? ⟨Nb, 1, none⟩ = _ := (blk_cell (HF.out.low rfl).2 1).trans rfl
     have cn2 : V.cell? ⟨Nb, 2, none⟩ = _ := (blk_cell (HF.out.low rfl).2 2).trans rfl
     have cn3 : V.cell? ⟨Nb, 3, none⟩ = _ := (blk_cell (HF.out.low rfl).2 3).trans rfl
     have cn4 : V.cell? ⟨Nb, 4, none⟩ = _ := (blk_cell (HF.out.low rfl).2 4).trans rfl
     have cn5 : V.cell? ⟨Nb, 5, none⟩ = _ := (blk_cell (HF.out.low rfl).2 5).trans rfl
     refine AnyOrder.wpOp_go rfl (by rfl) ?_
     go_wp2_with fail
     exact ⟨l0, l1, l2, l3, l4, true, l6, false, false, g, u1, rr, rfl, rfl, ⟨⟨fun _ => rfl, fun h => (by cases h), fun h => (by cases h), HF.out.low, HF.out.pre, HF.out.ent, fun h => (by cases h), fun h => (by cases h)⟩⟩⟩
    ·
     obtain rfl : l6 = false := (AnyOrder.mem_ready hi).2.1
     obtain rfl : l5 = true := AnyOrder.dep (q := 0) hi rfl rfl rfl
     clear hi
     simp only [sel_true, selv_true] at hK ⊢
     obtain ⟨rfl, rfl⟩ := HF.out.no7 (.inr (.inl rfl))
     (try simp only [sel_false, selv_false] at hK ⊢)
     refine AnyOrder.wpOp_go rfl (by rfl) ?_
     go_wp2_with fail
     exact ⟨l0, l1, l2, l3, l4, true, true, false, false, V.heap.size, u1, rr, rfl, rfl, ⟨⟨fun _ => rfl, fun h => (by cases h), fun h => (by cases h), fun _ => ⟨blk_alloc (HF.out.low rfl).1 _, blk_alloc (HF.out.low rfl).2 _⟩, fun _ => below_more (HF.out.pre rfl) ((Below.refl _ V).alloc (Nat.le_refl _) _), fun _ _ => ⟨(HF.out.pre rfl).size, blk_new _ _⟩, fun h => (by cases h), fun h => (by cases h)⟩⟩⟩
    ·
     obtain rfl : l7 = false := (AnyOrder.mem_ready hi).2.1
     obtain rfl : l4 = true := AnyOrder.dep (q := 0) hi rfl rfl rfl
     obtain rfl : l6 = true := AnyOrder.dep (q := 1) hi rfl rfl rfl
     clear hi
     simp only [sel_true, selv_true] at hK ⊢
     obtain ⟨-, rfl⟩ := HF.out.no7 (.inr (.inr rfl))
     (try simp only [sel_false, selv_false] at hK ⊢)
     obtain rfl := HF.out.ord6 rfl
     refine AnyOrder.wpOp_go rfl (by rfl) ?_
     refine op_append_node w.heap.size rfl (.tmp 30) (.tmp 32) rfl u (fam x.f1) [x] (some ⟨g, 0, none⟩) 1 1 rfl rfl ((HR1.out).keep fun q hq => (HF.out.pre rfl).block q (HR1.out.lt hq)) (boxN_C (HF.out.ent rfl rfl).2) (Nat.le_trans HBW.out (HF.out.pre rfl).size) HLF.out ?_
     intro v1 w1 hr1 hg1 hb1
     exact hK _ _ ⟨l0, l1, l2, l3, true, true, true, true, false, g, v1, rr, rfl, rfl, ⟨mk_app HUV.out HR1.out HUN.out HF.out hr1 hg1 hb1⟩⟩
    ·
     obtain rfl : l8 = false := (AnyOrder.mem_ready hi).2.1
     obtain rfl : l1 = true := AnyOrder.dep (q := 0) hi rfl rfl rfl
     obtain rfl : l3 = true := AnyOrder.dep (q := 1) hi rfl rfl rfl
     obtain rfl : l7 = true := AnyOrder.dep (q := 2) hi rfl rfl rfl
     clear hi
     simp only [sel_true, selv_true] at hK ⊢
     obtain ⟨rfl, rfl⟩ := HF.out.ord7 rfl
     obtain ⟨hr1, ht1, hb1⟩ := HF.out.mid rfl rfl
     obtain ⟨Au, nu, cu, rfl⟩ : ∃ A n c, u1 = .slice A n c := by obtain ⟨A, c, e⟩ := ownsRow_slice (cells_of_R hr1); exact ⟨_, _, _, e⟩
     refine AnyOrder.wpOp_go rfl (by rfl) ?_
     go_wp2_with fail
     refine (set_call w.heap.size mp v ks vs x.f1 Au nu cu V (HFM.out.mapT ht1) HKL.out (Nat.le_trans HBW.out ht1.size)).mono ?_
     rintro e V' ⟨r, v', rfl, hm, ht2⟩
     have HX := mk_set rfl HFM.out hr1 ht1 hb1 hm ht2
     exact hK _ _ ⟨l0, true, l2, true, l4, true, true, true, true, g, (.slice Au nu cu), r, rfl, rfl, ⟨⟨fun _ => rfl, fun _ => ⟨rfl, rfl⟩, fun _ => ⟨rfl, rfl, rfl⟩, fun h => (by cases h), fun h => (by cases h), fun _ h => (by cases h), fun _ h => (by cases h), fun _ => ⟨v', HX⟩⟩⟩⟩
   case last =>
    rintro L ac V ⟨l0, l1, l2, l3, l4, l5, l6, l7, l8, g, u1, rr, rfl, rfl, HF⟩ hr
    have hall := AnyOrder.all_listed rfl (by kernel_rfl) hr
    clear hr
    obtain rfl : l0 = true := hall 0 (by decide)
    obtain rfl : l1 = true := hall 1 (by decide)
    obtain rfl : l2 = true := hall 2 (by decide)
    obtain rfl : l3 = true := hall 3 (by decide)
    obtain rfl : l4 = true := hall 4 (by decide)
    obtain rfl : l5 = true := hall 5 (by decide)
    obtain rfl : l6 = true := hall 6 (by decide)
    obtain rfl : l7 = true := hall 7 (by decide)
    obtain rfl : l8 = true := hall 8 (by decide)
    clear hall
    simp only [sel_true, selv_true]
    obtain ⟨v', hfin, htc⟩ := HF.out.fin rfl
    have HX : Aside0 (FamSt w.heap.size V mp v' (setKs ks x.f1) (setVs ks vs x.f1 u1) (famOf (l0.take (m + 1))) ∧ V.heap[F]? = some (boxF mp) ∧ V.heap[RC]? = some (.cells #[.pointer none] 145 (0, 0)) ∧ Below w.heap.size w V) := ⟨by
     refine ⟨by rw [famOf_succ Hx.out, HFa.out]; exact hfin, ?_, ?_, htc.on HB.out (fun i hi => HFM.out.base_le hi)⟩
     ·
      exact (htc.block F (blk_lt HBF.out) (HFM.out.far HBF.out (by decide) x.f1)).trans HBF.out
     ·
      exact (htc.block RC (blk_lt HRC.out) (HFM.out.far HRC.out (by decide) x.f1)).trans HRC.out⟩
    clear hfin htc HF
    have hn6 : n ≤ 1000000 := by rw [← Hn.out]; exact HL.out
    go_wp2
    refine ⟨⟨m + 1, by omega, by go_num, ⟨v', _, _, HX.out.1, Nat.le_trans (setKs_le ks x.f1) (by have := HKL0.out; omega), famOf_ne Hx.out HNE.out⟩, ⟨HX.out.2.1⟩, ⟨HX.out.2.2.1⟩, ⟨HX.out.2.2.2⟩⟩, ?_⟩
    simp [intOf]; omega
  ·
   obtain rfl : m = n := by omega
   have hltb : decide ((m : Int) < (m : Int)) = false := decide_eq_false (by omega)
   obtain ⟨v, ks, vs, hfam, _, hne⟩ := HFAM.out
   rw [List.take_of_length_le (by rw [Hn.out]; exact Nat.le_refl _)] at hfam hne
   have HFM := Aside0.mk hfam
   have HNE := Aside0.mk hne
   have hcF : wr.cell? ⟨F, 0, none⟩ = _ := (blk_cell HF.out 0).trans rfl
   clear hfam hne HFAM
   go_wp2_with fail
   refine (all_call w.heap.size mp v ks vs wr HFM.out.map).mono ?_
   rintro e W1 ⟨bc, v', rfl, hov, hb1⟩
   have HFM1 := Aside0.mk (HFM.out.below hb1)
   have HF1 := Aside0.mk (blk_keep HF.out hb1)
   have HRC1 := Aside0.mk (blk_keep HRC.out hb1)
   have HB1 := Aside0.mk (below_more HB.out hb1)
   have HOV := Aside0.mk hov
   have HSZ := Aside0.mk hb1.size
   clear hov hb1 hcF HF HRC
   have HKZ : Aside0 (∀ k d u, (ks.zip vs)[k]? = some (d, u) → ks[k]? = some d ∧ vs[k]? = some u ∧ ∃ g n cap, u = Value.slice (some ⟨g, 0, none⟩) n cap) := ⟨fun k d u hz => by
    obtain ⟨h1, h2⟩ := (List.getElem?_zip_eq_some).1 hz
    refine ⟨h1, h2, ?_⟩
    have hr := HFM.out.rows d u (List.mem_of_getElem? hz)
    have hn0 : famOf l0 d ≠ [] := HNE.out d (List.mem_of_getElem? h1)
    obtain ⟨g, cap, e, _⟩ := Kd.R_form hr (List.length_pos_iff.2 hn0)
    exact ⟨g, _, cap, e⟩⟩
   have HSL : Aside0 (∀ u ∈ vs, ∃ A n c, u = Value.slice A n c) := ⟨fun u hu => by
    obtain ⟨k, hk⟩ := List.getElem?_of_mem hu
    obtain ⟨d, u', hz, _, hv⟩ := zip_get (ks := ks) (vs := vs) HFM.out.map.len (by have := (List.getElem?_eq_some_iff.1 hk).1; rw [← HFM.out.map.len]; exact this)
    rw [hk] at hv
    cases hv
    obtain ⟨_, _, g, n, cap, e⟩ := HKZ.out k d u hz
    exact ⟨_, _, _, e⟩⟩
   have HEV : Aside0 (∀ i, (∃ u ∈ vs, u.ownBlock = some i) → i < wr.heap.size ∧ ∃ cur, W1.heap[i]? = some (.cells cur 53 (0, 0))) := ⟨fun i ⟨u, hu, hi⟩ => by
    obtain ⟨k, hk⟩ := List.getElem?_of_mem hu
    obtain ⟨d, u', hz, _, hv⟩ := zip_get (ks := ks) (vs := vs) HFM.out.map.len (by have := (List.getElem?_eq_some_iff.1 hk).1; rw [← HFM.out.map.len]; exact this)
    rw [hk] at hv
    cases hv
    exact ⟨(HFM.out.rows d u (List.mem_of_getElem? hz)).lt hi, ((HFM1.out.rows d u (List.mem_of_getElem? hz)).block hi).2⟩⟩
   go_wp2_with fail
   have HFM0 : Aside0 (FamSt w.heap.size W1 mp v ks vs (famK l0 ks 0)) := ⟨by rw [show famK l0 ks 0 = famOf l0 from by funext d; unfold famK; rw [List.take_zero, if_neg (by simp)]]; exact HFM1.out⟩
   refine wpIn_wide.1 (ListRange.wpIn_range (n := 9) (F := Fence.wide) rfl (by decide) (gf := 146) (lb := #[.pointer (some ⟨bc, 0, none⟩)]) rfl trivial Tryz.call146
    (encs := fun p : Dot × Value => #[vDot p.1, p.2]) (Kp := KpE W1.heap.size (fun i => ∃ u ∈ vs, u.ownBlock = some i)) (L := ks.zip vs) (w0 := W1)
    (fun lp J Jx W hWW hJ _ hY h0 => over_in 8 lp bc W1.heap.size wr.heap.size (fun i => ∃ u ∈ vs, u.ownBlock = some i) v' ks vs (by decide) J Jx W
     (fun k A o hA hj => hJ k A (A.alloc o) none hj ⟨rfl, rfl, rfl, by simp, fun k hk _ => Below.heap_alloc A o k hk⟩ (fun r e => (by cases e)))
     hY (HOV.out.keep (hWW.block bc (blk_lt HOV.out.box)) (fun g hg => hWW.block g (by
      rcases HOV.out.row.2 with ⟨rfl, _⟩ | ⟨g', c, cur, rfl, _, hcur, _⟩
      ·
       cases hg
      ·
       cases hg; exact blk_lt hcur))) hWW.size
     ⟨blk_lt HOV.out.box, fun h => by have h1 : bc < wr.heap.size := (HEV.out bc h).1; have h2 : wr.heap.size ≤ bc := HOV.out.own; omega⟩
     (fun g hg => by
      rcases HOV.out.row.2 with ⟨rfl, _⟩ | ⟨g', c, cur, rfl, hbg, hcur, _⟩
      ·
       cases hg
      ·
       cases hg; exact ⟨blk_lt hcur, fun h => by have h1 : g' < wr.heap.size := (HEV.out g' h).1; have h2 : wr.heap.size ≤ g' := hbg; omega⟩) h0 HSL.out)
    (fun h k => h.trans k) (fun W l o o' hl _ _ _ => KpE.put (Nat.le_refl _) W l o o' hl) (Below.refl _ _) (fun _ => rfl)
    (fun k W => FamSt w.heap.size W mp v ks vs (famK l0 ks k) ∧ W.heap[F]? = some (boxF mp) ∧ W.heap[RC]? = some (.cells #[.pointer none] 145 (0, 0)) ∧ Below w.heap.size w W ∧ KpE W1.heap.size (fun i => ∃ u ∈ vs, u.ownBlock = some i) W1 W)
    (fun _ _ _ => False)
    ?own (fun _ _ _ _ _ hs _ _ => hs) ⟨HFM0.out, HF1.out, HRC1.out, HB1.out, KpE.refl _ _ _⟩
    (fun x a' _ => a' = { tmps := #[.slice A0 m c0, undef, .pointer (some ⟨RC, 0, none⟩), .pointer (some ⟨F, 0, none⟩), undef, u5, u6, u7, undef, x.2, .pointer (some ⟨mp, 0, none⟩), .agg #[.pointer (some ⟨mp, 0, none⟩)], .slice A0 m c0, .int .i64 m, .int .i64 m, .bool false, u16, u17, u18, u19, u20, u21, u22, u23, u24, u25, u26, u27, u28, u29, u30, u31, u32, u33, u34, u35, .pointer (some ⟨F, 0, none⟩), .pointer (some ⟨mp, 0, none⟩), .func (.func 146) #[] #[.pointer (some ⟨bc, 0, none⟩)], vDot x.1, x.2, undef, undef, undef], defers := [] })
    (fun x a' _ W W' row hs hg hr => hs)
    ?assign ?body ?done ?stop)
   case own =>
    rintro k W W' row ⟨h1, h2, h3, h4, h5⟩ hg hr
    have hnc : ∀ q cells t, W.heap[q]? = some (Obj.cells cells t (0, 0)) → W'.heap[q]? = W.heap[q]? := fun q cells t hq => hg.block q (blk_lt hq) (fun e => by obtain ⟨_, o, ho, hc⟩ := hr q e.symm; rw [hq] at ho; cases ho; cases hc)
    refine ⟨⟨h1.map.keep (hnc mp _ _ h1.map.map) (fun g hgg => ?_), fun d u hm => (h1.rows d u hm).keep (fun g hgg => ?_), h1.sep, h1.none⟩, (hnc F _ _ h2).trans h2, (hnc RC _ _ h3).trans h3, h4.grown hg h4.size (fun k e => Nat.le_trans HB1.out.size (hr k e).1), h5.trans (KpE.grown2 hg (fun r e hlt => by have := (hr r e).1; omega) h5.1)⟩
    ·
     rcases h1.map.row.2 with ⟨rfl, _⟩ | ⟨g', c, cur, rfl, _, hcur, _⟩
     ·
      cases hgg
     ·
      cases hgg; exact hnc _ _ _ hcur
    ·
     obtain ⟨_, cur, hcur⟩ := (h1.rows d u hm).block hgg
     exact hnc _ _ _ hcur
   case assign =>
    rintro l k x W K hx hI hK
    gi_wp2
    exact hK _ _ ⟨Nat.le_refl _, fun _ _ _ h _ => h⟩ (KpE.refl _ _ _) hI rfl
   case body =>
    rintro l k ⟨d, u⟩ a' W hx hl2 ⟨rr, hrr⟩ ⟨h1, h2, h3, h4, h5⟩ rfl
    obtain ⟨hkd, hvu, g, nu, cu, rfl⟩ := HKZ.out k d u hx
    have HX := Aside0.mk hx
    have H1 := Aside0.mk h1
    have H2 := Aside0.mk h2
    have H3 := Aside0.mk h3
    have H4 := Aside0.mk h4
    have H5 := Aside0.mk h5
    have HKD := Aside0.mk hkd
    have HVU := Aside0.mk hvu
    have hat : famK l0 ks k d = famOf l0 d := famK_at (incB_nodup HFM.out.map.inc) hkd
    have hrow : RN W w.heap.size (.slice (some ⟨g, 0, none⟩) nu cu) (famOf l0 d) := by rw [← hat]; exact h1.rows d _ (List.mem_of_getElem? hx)
    have HROW := Aside0.mk hrow
    have HLL : Aside0 ((famOf l0 d).length ≤ 1000000) := ⟨Nat.le_trans (List.length_filter_le _ _) HL.out⟩
    clear hx h1 h2 h3 h4 h5 hkd hvu hat hrow
    gi_wp2
    refine ⟨trivial, CallsIn.inRound l (CallsIn.mono (callsIn_wide.2 (sort_call w.heap.size g nu cu (famOf l0 d) W HROW.out HLL.out (fun x hx y hy e => HUQ.out x (List.mem_filter.1 hx).1 y (List.mem_filter.1 hy).1 e))) ?_)⟩
    rintro e W' ⟨rfl, hr, ht⟩
    have HR2 := Aside0.mk hr
    have HT := Aside0.mk ht
    clear hr ht
    gi_wp2
    have hcells : ∃ cur, W.heap[g]? = some (.cells cur 53 (0, 0)) := (HROW.out.block rfl).2
    have hgw : w.heap.size ≤ g := (HROW.out.block rfl).1
    have hfar : ∀ q cells t, W.heap[q]? = some (Obj.cells cells t (0, 0)) → t ≠ 53 → W'.heap[q]? = some (Obj.cells cells t (0, 0)) := fun q cells t hq hne => (HT.out.block q (blk_lt hq) (fun e => by
     obtain ⟨cur, hc⟩ := hcells
     cases e
     rw [hc] at hq
     exact hne (Obj.cells.inj (Option.some.inj hq)).2.1.symm)).trans hq
    refine ⟨⟨HT.out.size, fun q o hB hq hoc => (HT.out.block q (blk_lt hq) (fun e => ?_)).trans hq⟩, ⟨HT.out.size, fun i hi hne => HT.out.block i (Nat.lt_of_lt_of_le hi H5.out.1) (fun e => hne ⟨_, List.mem_of_getElem? HVU.out, e⟩)⟩, ?_, hfar F _ 145 H2.out (by decide), hfar RC _ 145 H3.out (by decide), HT.out.on H4.out (fun i e => by cases e; exact hgw), H5.out.trans ⟨HT.out.size, fun i hi hne => HT.out.block i (Nat.lt_of_lt_of_le hi H5.out.1) (fun e => hne ⟨_, List.mem_of_getElem? HVU.out, e⟩)⟩⟩
    ·
     obtain ⟨cur, hc⟩ := hcells
     cases e
     rw [hc] at hq
     cases hq
     cases hoc
    ·
     rw [famK_succ HKD.out]
     exact H1.out.turn HKD.out HVU.out HR2.out HT.out
   case done =>
    rintro D W hD ⟨h1, h2, h3, h4, h5⟩ hDK
    have hcF : W.cell? ⟨F, 0, none⟩ = _ := (blk_cell h2 0).trans rfl
    have hcR : W.cell? ⟨RC, 0, none⟩ = _ := (blk_cell h3 0).trans rfl
    have hfR := blk_frozen h3 0
    have HEND : Aside0 (W.heap[RC]? = some (.cells #[.pointer none] 145 (0, 0)) ∧ FamSt w.heap.size W mp v ks vs (kids l0) ∧ Below w.heap.size w W) := ⟨by
     refine ⟨h3, ?_, h4⟩
     have hk : famK l0 ks (ks.zip vs).length = kids l0 := by
      funext d
      unfold famK
      rw [List.length_zip, HFM.out.map.len, Nat.min_self, List.take_length]
      by_cases hd : d ∈ ks
      ·
       rw [if_pos hd]; rfl
      ·
       rw [if_neg hd, HFM.out.none d hd]
       show [] = sortN (famOf l0 d)
       rw [HFM.out.none d hd]; rfl
     rw [hk] at h1
     exact h1⟩
    clear h1 h2 h3 h4 h5
    have HRCW : Aside0 (w.heap.size ≤ RC ∧ W1.heap.size ≤ D ∧ W.heap[D]? = some (.deferred (some []))) := ⟨by rw [HRCe.out]; exact ⟨Nat.le_refl _, hD, hDK⟩⟩
    clear hDK hD
    go_wp2
    obtain ⟨hrcw, hD, hDK⟩ := HRCW.out
    have hDne : D ≠ RC := fun e => by
     have := HEND.out.1
     rw [← e, hDK] at this
     cases this
    have hset : ∀ q, q ≠ RC → (W.setCell ⟨RC, 0, none⟩ (.pointer (some ⟨mp, 0, none⟩))).heap[q]? = W.heap[q]? := fun q hq => Below.heap_setCell W _ _ q hq
    have hRC2 : (W.setCell ⟨RC, 0, none⟩ (.pointer (some ⟨mp, 0, none⟩))).heap[RC]? = some (.cells #[.pointer (some ⟨mp, 0, none⟩)] 145 (0, 0)) := blk_set HEND.out.1 0 _
    have hfam2 : FamSt w.heap.size (W.setCell ⟨RC, 0, none⟩ (.pointer (some ⟨mp, 0, none⟩))) mp v ks vs (kids l0) := HEND.out.2.1.cells fun q cells t ht hq => hset q (fun e => by
     subst e
     rw [HEND.out.1] at hq
     exact ht (Obj.cells.inj (Option.some.inj hq)).2.1.symm)
    have hbel2 := below_setCell HEND.out.2.2 hrcw 0 (.pointer (some ⟨mp, 0, none⟩))
    refine leaves_of_marks2 (n0 := w.heap.size) [mkMark D] _ ⟨[D], rfl, by simp, fun E hE => ?_⟩ (fun W' hm => ⟨_, results_cell_row rfl _ W' RC 145 #[.pointer (some ⟨mp, 0, none⟩)] (0, 0) _ rfl ((hm.block RC (.inr fun d e => ?_)).trans hRC2) Tryz.underlying145 rfl (by kernel_rfl), mp, rfl, ⟨v, ks, vs, hfam2.cells fun q cells t _ hq => hm.block q (.inr fun d e => ?_)⟩, below_onlyMarks hbel2 hm⟩)
    ·
     simp only [List.mem_singleton] at hE
     subst hE
     exact ⟨Nat.le_trans HB1.out.size hD, (hset E hDne).trans hDK⟩
    ·
     rw [hRC2] at e; cases e
    ·
     rw [hq] at e; cases e
   case stop =>
    rintro D c k W _ _ h _
    exact h.elim
end Go.Proofs.YtmbndijbpgobeaaGreat.PWalk
end
section
namespace Go.Proofs.YtmbndijbpgobeaaGreat.PWalk
open Go.RowKit Go.Proofs.YtmbndijbpgobeaaGreatW.PrintWords Go.Proofs.YtmbndijbpgobeaaGreatW.PrintLast Go.Proofs.YtmbndijbpgobeaaGreatW.PrintMore
set_option linter.unusedVariables false
set_option linter.unusedSimpArgs false
open Go.Shelf
attribute [local go_sem] Oper.semAt_some
def walk_Order.f (l0 : List Node) : Option (List Node × Int) := if l0.length ≤ 1000000 then some (if storeOk l0 = true then ((ordOf l0).map (·.2), 0) else ([], 2)) else none
/-- The families of l, in memory from base on. -/
def Fams (base : Nat) (W : World) (mp : Nat) (l : List Node) : Prop := ∃ v ks vs, FamSt base W mp v ks vs (kids l)
theorem Fams.below {base : Nat} {W V : World} {mp : Nat} {l : List Node} (h : Fams base W mp l) (hb : Below W.heap.size W V) : Fams base V mp l := by
 obtain ⟨v, ks, vs, h⟩ := h
 exact ⟨v, ks, vs, h.below hb⟩
abbrev vFam (mp : Nat) : Value := .agg #[.pointer (some ⟨mp, 0, none⟩)]
set_option maxHeartbeats 1000000 in
set_option maxRecDepth 100000 in
theorem of_call (base mp : Nat) (l : List Node) (d : Dot) (w : World) (h : Fams base w mp l) :
  Calls Tryz.prog 133 #[vFam mp, vDot d] w fun e w' => ∃ u, e = .returned u ∧ RN w' base u (kids l d) ∧ Below w.heap.size w w' := by
 obtain ⟨v, ks, vs, h⟩ := h
 have hgr := ((Gr.alloc w (boxF mp)).trans (Gr.alloc _ (.cells #[.int .i64 d.f0, .int .i64 d.f1] 25 (0, 0)))).below
 have HM := Aside0.mk (h.below hgr)
 have hF : ((w.alloc (boxF mp)).alloc (.cells #[.int .i64 d.f0, .int .i64 d.f1] 25 (0, 0))).heap[w.heap.size]? = some (boxF mp) := blk_alloc (blk_new _ _) _
 have hD : ((w.alloc (boxF mp)).alloc (.cells #[.int .i64 d.f0, .int .i64 d.f1] 25 (0, 0))).heap[w.heap.size + 1]? = some (.cells #[.int .i64 d.f0, .int .i64 d.f1] 25 (0, 0)) := by have := blk_new (w.alloc (boxF mp)) (.cells #[.int .i64 d.f0, .int .i64 d.f1] 25 (0, 0)); rwa [World.size_alloc] at this
 have c0 : ((w.alloc (boxF mp)).alloc (.cells #[.int .i64 d.f0, .int .i64 d.f1] 25 (0, 0))).cell? ⟨w.heap.size, 0, none⟩ = _ := (blk_cell hF 0).trans rfl
 have c1 : ((w.alloc (boxF mp)).alloc (.cells #[.int .i64 d.f0, .int .i64 d.f1] 25 (0, 0))).cell? ⟨w.heap.size + 1, 0, none⟩ = _ := (blk_cell hD 0).trans rfl
 have c2 : ((w.alloc (boxF mp)).alloc (.cells #[.int .i64 d.f0, .int .i64 d.f1] 25 (0, 0))).cell? ⟨w.heap.size + 1, 1, none⟩ = _ := (blk_cell hD 1).trans rfl
 have HB := Aside0.mk hgr
 clear h hgr hF hD
 go_enter Tryz.func133, Tryz.ntmps133
 go_wp2_with fail
 obtain ⟨A, c, hv, hents⟩ := HM.out.map.ents
 have hget := get_call mp ks vs A ks.length c d _ HM.out.map.inc hents (by rw [← hv]; exact HM.out.map.map)
 refine hget.mono ?_
 clear hget hv hents c0 c1 c2
 rintro e w1 ⟨rfl, hb⟩
 have HR := Aside0.mk ((HM.out.below hb).getR d)
 have HB := Aside0.mk (below_more HB.out hb)
 clear hb HM
 obtain ⟨u, hu⟩ : ∃ u, getV ks vs d = u := ⟨_, rfl⟩
 rw [hu] at HR ⊢
 clear hu
 obtain ⟨Au, cu, rfl⟩ := Kd.R_slice HR.out
 go_wp2
 go_ret
 exact ⟨_, rfl, HR.out, HB.out⟩
theorem Store.uniq {l : List Node} (hs : Store l) : ∀ x ∈ l, ∀ y ∈ l, x.f0 = y.f0 → x = y := fun x hx y hy e => inc_eq hs.inc hx hy e
theorem made_call (A0 : Option Addr) (c0 : Nat) (l0 : List Node) (w : World) (hr0 : Kd.C k53 w A0 l0.length l0) (hc0 : l0.length ≤ c0) (hl : l0.length ≤ 1000000) (hs : Store l0) :
  Calls Tryz.prog 118 #[.slice A0 l0.length c0] w fun e w' => ∃ mp, e = .returned (vFam mp) ∧ Fams w.heap.size w' mp l0 ∧ Below w.heap.size w w' :=
 made_walk A0 c0 l0 w hr0 hc0 hl hs.uniq
theorem Fams.lower {b b' : Nat} {W : World} {mp : Nat} {l : List Node} (h : Fams b W mp l) (hb : b' ≤ b) : Fams b' W mp l := by
 obtain ⟨v, ks, vs, h⟩ := h
 refine ⟨v, ks, vs, ⟨h.map.map, Nat.le_trans hb h.map.own, ⟨h.map.row.1, h.map.row.2.imp id ?_⟩, h.map.len, h.map.small, h.map.one, h.map.inc⟩, fun d u hm => Kd.R_lower (h.rows d u hm) hb, h.sep, h.none⟩
 rintro ⟨g, c, cur, e, hg, hr⟩
 exact ⟨g, c, cur, e, Nat.le_trans hb hg, hr⟩
theorem RN.below' {W V : World} {base : Nat} {u : Value} {xs : List Node} (h : RN W base u xs) (hb : Below W.heap.size W V) : RN V base u xs := Kd.R_below h hb
end Go.Proofs.YtmbndijbpgobeaaGreat.PWalk
end
