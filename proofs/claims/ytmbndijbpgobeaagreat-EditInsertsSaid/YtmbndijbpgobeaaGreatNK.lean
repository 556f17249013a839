/-
  The law EditInserts of layer 15 holds for all states, dots, indices and runes. Part 11 of 12.
-/
import Derived.Test.YtmbndijbpgobeaaGreatNJ
import Derived.Laws.Tables
section
namespace Go.Proofs.YtmbndijbpgobeaaGreat.PWalk
open Go.RowKit Go.Proofs.YtmbndijbpgobeaaGreatW.PrintWords Go.Proofs.YtmbndijbpgobeaaGreatW.PrintLast Go.Proofs.YtmbndijbpgobeaaGreatW.PrintMore
attribute [local go_sem] max2_int max_two
set_option linter.unusedVariables false
set_option linter.unusedSimpArgs false
def redpencilref15_Same.l0 : Nat → List Int → List Int → Int → Option (Bool)
 | 0, _, _, _ => none
 | k + 1, x0, x1, x5 => if x5 < (x0.length : Int) then (if 0 ≤ x5 then (if x5 < (x1.length : Int) then (if (rd x0 x5) = (rd x1 x5) then (redpencilref15_Same.l0 k x0 x1 (wrap64 (x5 + 1))) else (some false)) else (none)) else (none)) else (some true)
def redpencilref15_Same.f (k : Nat) (l0 : List Int) (l1 : List Int) : Option (Bool) := if (l0.length : Int) = (l1.length : Int) then (redpencilref15_Same.l0 k l0 l1 0) else (some false)
set_option maxHeartbeats 8000000 in
set_option maxRecDepth 100000 in
theorem redpencilref15_Same.calls (k : Nat) (A0 : Option Addr) (c0 : Nat) (l0 : List Int) (A1 : Option Addr) (c1 : Nat) (l1 : List Int) (r : Bool) (w : World) (hr0 : Kd.C (Kd.int .i32) w A0 l0.length l0) (hc0 : l0.length ≤ c0) (hr1 : Kd.C (Kd.int .i32) w A1 l1.length l1) (hc1 : l1.length ≤ c1) (h : redpencilref15_Same.f k l0 l1 = some r) :
  Calls Tryz.prog 29 #[.slice A0 l0.length c0, .slice A1 l1.length c1] w fun e w' => e = .returned (.bool r) ∧ Drawn0 w w' := by
 have HR0 := Aside0.mk hr0
 have HC0 := Aside0.mk hc0
 clear hr0 hc0
 have HR1 := Aside0.mk hr1
 have HC1 := Aside0.mk hc1
 clear hr1 hc1
 have H : (if (l0.length : Int) = (l1.length : Int) then (redpencilref15_Same.l0 k l0 l1 0) else (some false)) = some r := h
 clear h
 by_cases c3 : (l0.length : Int) = (l1.length : Int)
 ·
  rw [if_pos c3] at H
  have c3b0 : ((l0.length : Int) == (l1.length : Int)) = true := beq_iff_eq.mpr c3
  have c3b1 : ((l0.length : Int) != (l1.length : Int)) = false := bne_eq_false_iff_eq.mpr c3
  have c3b2 : (l0.length == l1.length) = true := by first | simpa using c3 | (simp at c3 ⊢; omega)
  clear c3
  have H' := Aside0.mk H
  clear H
  go_enter Tryz.func29, Tryz.ntmps29
  go_wp2
  repeat (go_quiet (fail); try go_wp2)
  go_loopg [5] k (fun kq v5 w' => ∃ (x5_1 : Int), v5 = .int .i64 x5_1 ∧ Aside0 (redpencilref15_Same.l0 kq l0 l1 x5_1 = some r) ∧ Aside0 (kq ≤ k) ∧ Drawn0 w w')
  case atStart => exact ⟨(0), (by first | rfl | (simp; done) | (simp [*]; done)), H', ⟨Nat.le_refl _⟩, by repeat (first | exact Drawn0.refl _ | apply Drawn0.step)⟩
  case round =>
   clear H'
   try clear c1
   try clear c2
   try clear p2
   try clear c3
   try clear c3b0
   try clear c3b1
   try clear c3b2
   obtain ⟨x5_1, rfl, HA, HK1, ⟨m1, rfl⟩⟩ := hrel
   cases gk with
   | zero => exact absurd HA.out (by simp [redpencilref15_Same.l0])
   | succ k1 =>
    have H := HA.out
    clear HA
    simp only [redpencilref15_Same.l0] at H
    by_cases c4 : x5_1 < (l0.length : Int)
    ·
     rw [if_pos c4] at H
     have c4b0 : decide (x5_1 < (l0.length : Int)) = true := decide_eq_true c4
     clear c4
     by_cases c5 : 0 ≤ x5_1
     ·
      rw [if_pos c5] at H
      have c5b0 : decide (0 ≤ x5_1) = true := decide_eq_true c5
      clear c5
      by_cases c6 : x5_1 < (l1.length : Int)
      ·
       rw [if_pos c6] at H
       have c6b0 : decide (x5_1 < (l1.length : Int)) = true := decide_eq_true c6
       clear c6
       by_cases c7 : (rd l0 x5_1) = (rd l1 x5_1)
       ·
        rw [if_pos c7] at H
        have c7b0 : ((rd l0 x5_1) == (rd l1 x5_1)) = true := beq_iff_eq.mpr c7
        have c7b1 : ((rd l0 x5_1) != (rd l1 x5_1)) = false := bne_eq_false_iff_eq.mpr c7
        clear c7
        have H' := Aside0.mk H
        clear H
        have p275 : 0 ≤ (x5_1 : Int) := of_decide_eq_true (by first | (with_reducible assumption) | assumption)
        have q275 : x5_1 < (l0.length : Int) := of_decide_eq_true (by first | (with_reducible assumption) | assumption)
        obtain ⟨ad275, e275, hx275_0⟩ := Kd.at_int HR0.out x5_1 p275 q275
        cases e275
        replace p275 := eq_true p275
        replace q275 := eq_true q275
        have p276 : 0 ≤ (x5_1 : Int) := of_decide_eq_true (by first | (with_reducible assumption) | assumption)
        have q276 : x5_1 < (l1.length : Int) := of_decide_eq_true (by first | (with_reducible assumption) | assumption)
        obtain ⟨ad276, e276, hx276_0⟩ := Kd.at_int HR1.out x5_1 p276 q276
        cases e276
        replace p276 := eq_true p276
        replace q276 := eq_true q276
        go_wp2
        repeat (go_quiet (fail); try go_wp2)
        go_roundg k1
        case measure => have := HK1.out; omega
        case rel => exact ⟨(wrap64 (x5_1 + 1)), (by first | rfl | (simp; done) | (simp [*]; done)), H', ⟨by have := HK1.out; omega⟩, by repeat (first | exact Drawn0.refl _ | apply Drawn0.step)⟩
       ·
        rw [if_neg c7] at H
        have c7b0 : ((rd l0 x5_1) == (rd l1 x5_1)) = false := beq_eq_false_iff_ne.mpr c7
        have c7b1 : ((rd l0 x5_1) != (rd l1 x5_1)) = true := bne_iff_ne.mpr c7
        obtain rfl := Option.some.inj H
        have p275 : 0 ≤ (x5_1 : Int) := of_decide_eq_true (by first | (with_reducible assumption) | assumption)
        have q275 : x5_1 < (l0.length : Int) := of_decide_eq_true (by first | (with_reducible assumption) | assumption)
        obtain ⟨ad275, e275, hx275_0⟩ := Kd.at_int HR0.out x5_1 p275 q275
        cases e275
        replace p275 := eq_true p275
        replace q275 := eq_true q275
        have p276 : 0 ≤ (x5_1 : Int) := of_decide_eq_true (by first | (with_reducible assumption) | assumption)
        have q276 : x5_1 < (l1.length : Int) := of_decide_eq_true (by first | (with_reducible assumption) | assumption)
        obtain ⟨ad276, e276, hx276_0⟩ := Kd.at_int HR1.out x5_1 p276 q276
        cases e276
        replace p276 := eq_true p276
        replace q276 := eq_true q276
        go_wp2
        repeat (go_quiet (fail); try go_wp2)
        go_ret
        exact ⟨by first | rfl | (simp; done) | (simp [*]; done), by repeat (first | exact Drawn0.refl _ | apply Drawn0.step)⟩
      ·
       rw [if_neg c6] at H
       exact absurd H (by simp)
     ·
      rw [if_neg c5] at H
      exact absurd H (by simp)
    ·
     rw [if_neg c4] at H
     have c4b0 : decide (x5_1 < (l0.length : Int)) = false := decide_eq_false c4
     clear c4
     obtain rfl := Option.some.inj H
     go_wp2
     repeat (go_quiet (fail); try go_wp2)
     go_ret
     exact ⟨by first | rfl | (simp; done) | (simp [*]; done), by repeat (first | exact Drawn0.refl _ | apply Drawn0.step)⟩
 ·
  rw [if_neg c3] at H
  have c3b0 : ((l0.length : Int) == (l1.length : Int)) = false := beq_eq_false_iff_ne.mpr c3
  have c3b1 : ((l0.length : Int) != (l1.length : Int)) = true := bne_iff_ne.mpr c3
  have c3b2 : (l0.length == l1.length) = false := by first | simpa using c3 | (simp at c3 ⊢; omega)
  obtain rfl := Option.some.inj H
  go_enter Tryz.func29, Tryz.ntmps29
  go_wp2
  repeat (go_quiet (fail); try go_wp2)
  go_ret
  exact ⟨by first | rfl | (simp; done) | (simp [*]; done), by repeat (first | exact Drawn0.refl _ | apply Drawn0.step)⟩
end Go.Proofs.YtmbndijbpgobeaaGreat.PWalk
end
section
namespace Go.Proofs.YtmbndijbpgobeaaGreat.PWalk
end Go.Proofs.YtmbndijbpgobeaaGreat.PWalk
end
section
namespace Go.Proofs.YtmbndijbpgobeaaGreat.PWalk
open Go.RowKit Go.Proofs.YtmbndijbpgobeaaGreatW.PrintWords Go.Proofs.YtmbndijbpgobeaaGreatW.PrintLast Go.Proofs.YtmbndijbpgobeaaGreatW.PrintMore
set_option linter.unusedVariables false
set_option linter.unusedSimpArgs false
open Go.Shelf
attribute [local go_sem] Oper.semAt_some
theorem jlast_from (l : List Node) (hl : l.length ≤ 400000) (hs : storeOk l = true) : ∀ (q k i : Nat) (t : Int), i + q = l.length → q < k → redpencilref15_Latest.l0 k l t (i : Int) = some ((l.drop i).foldl (fun t x => mx t x.f2) t) := by
 intro q
 induction q with
 | zero =>
  intro k i t hi hk
  obtain ⟨k, rfl⟩ : ∃ m, k = m + 1 := ⟨k - 1, by omega⟩
  simp only [redpencilref15_Latest.l0]
  rw [if_neg (by omega), List.drop_of_length_le (by omega)]
  rfl
 | succ q ih =>
  intro k i t hi hk
  obtain ⟨k, rfl⟩ : ∃ m, k = m + 1 := ⟨k - 1, by omega⟩
  have hlt : i < l.length := by omega
  simp only [redpencilref15_Latest.l0, redpencilref14_Store.f]
  rw [if_pos (by omega), if_pos hl, Option.bind_some, if_pos hs, if_pos (by omega), rdN hlt, wrap_succ hlt (by omega), List.drop_eq_getElem_cons hlt, List.foldl_cons]
  exact ih k (i + 1) _ (by omega) (by omega)
theorem jlatest_is {l : List Node} (hl : l.length ≤ 400000) {k : Nat} (hk : l.length < k) : redpencilref15_Latest.f k l = some (if storeOk l = true then lastOf l else 0) := by
 unfold redpencilref15_Latest.f
 by_cases h : storeOk l = true
 ·
  rw [if_pos h]
  exact jlast_from l hl h l.length k 0 0 (by omega) hk
 ·
  rw [if_neg h]
  obtain ⟨k, rfl⟩ : ∃ m, k = m + 1 := ⟨k - 1, by omega⟩
  simp only [redpencilref15_Latest.l0, redpencilref14_Store.f]
  by_cases h0 : (0 : Int) < (l.length : Int)
  ·
   rw [if_pos h0, if_pos hl, Option.bind_some, if_neg h]
  ·
   rw [if_neg h0]
theorem jsame_from (l : List Node) (hl : l.length ≤ 1000000) : ∀ (q k i : Nat), i + q = l.length → q < k → redpencilref14_Same.l0 k l l (i : Int) = some true := by
 intro q
 induction q with
 | zero =>
  intro k i hi hk
  obtain ⟨k, rfl⟩ : ∃ m, k = m + 1 := ⟨k - 1, by omega⟩
  simp only [redpencilref14_Same.l0]
  rw [if_neg (by omega)]
 | succ q ih =>
  intro k i hi hk
  obtain ⟨k, rfl⟩ : ∃ m, k = m + 1 := ⟨k - 1, by omega⟩
  have hlt : i < l.length := by omega
  simp only [redpencilref14_Same.l0]
  rw [if_pos (by omega), if_pos (by omega), if_pos (by omega), if_neg (by simp), wrap_succ hlt hl]
  exact ih k (i + 1) (by omega) (by omega)
theorem jsame_is (l : List Node) (hl : l.length ≤ 1000000) {k : Nat} (hk : l.length < k) : redpencilref14_Same.f k l l = some true := by
 unfold redpencilref14_Same.f
 rw [if_pos rfl]
 exact jsame_from l hl l.length k 0 (by omega) hk
theorem jsameI_from (l : List Int) (hl : l.length ≤ 1000000) : ∀ (q k i : Nat), i + q = l.length → q < k → redpencilref15_Same.l0 k l l (i : Int) = some true := by
 intro q
 induction q with
 | zero =>
  intro k i hi hk
  obtain ⟨k, rfl⟩ : ∃ m, k = m + 1 := ⟨k - 1, by omega⟩
  simp only [redpencilref15_Same.l0]
  rw [if_neg (by omega)]
 | succ q ih =>
  intro k i hi hk
  obtain ⟨k, rfl⟩ : ∃ m, k = m + 1 := ⟨k - 1, by omega⟩
  have hlt : i < l.length := by omega
  simp only [redpencilref15_Same.l0]
  rw [if_pos (by omega), if_pos (by omega), if_pos (by omega), if_pos trivial, wrap_succ hlt hl]
  exact ih k (i + 1) (by omega) (by omega)
theorem jsameI_is (l : List Int) (hl : l.length ≤ 1000000) {k : Nat} (hk : l.length < k) : redpencilref15_Same.f k l l = some true := by
 unfold redpencilref15_Same.f
 rw [if_pos rfl]
 exact jsameI_from l hl l.length k 0 (by omega) hk
theorem jvis_from (l : List Node) (hl : l.length ≤ 1000000) : ∀ (q k i : Nat), i + q = l.length → q < k → redpencilref14_Visible.l0 k (aliveOf (l.take i)) l (i : Int) = some (aliveOf l) := by
 intro q
 induction q with
 | zero =>
  intro k i hi hk
  obtain ⟨k, rfl⟩ : ∃ m, k = m + 1 := ⟨k - 1, by omega⟩
  simp only [redpencilref14_Visible.l0]
  rw [if_neg (by omega), show i = l.length by omega, List.take_length]
 | succ q ih =>
  intro k i hi hk
  obtain ⟨k, rfl⟩ : ∃ m, k = m + 1 := ⟨k - 1, by omega⟩
  have hlt : i < l.length := by omega
  simp only [redpencilref14_Visible.l0]
  rw [if_pos (by omega), if_pos (by omega), rdN hlt, wrap_succ hlt hl]
  have hs : aliveOf (l.take (i + 1)) = aliveOf (l.take i) ++ aliveOf [l[i]] := by
   unfold aliveOf
   rw [List.take_succ_eq_append_getElem hlt, List.filter_append]
  have := ih k (i + 1) (by omega) (by omega)
  rw [hs] at this
  by_cases h : l[i].f3 = 0
  ·
   rw [if_pos h]
   rw [show aliveOf [l[i]] = [] by unfold aliveOf; simp [h], List.append_nil] at this
   exact this
  ·
   rw [if_neg h, if_pos (by have := aliveOf_le (l.take i); rw [List.length_take] at this; omega)]
   rw [show aliveOf [l[i]] = [l[i]] by unfold aliveOf; simp [h]] at this
   exact this
theorem jvis_is {l : List Node} (hl : l.length ≤ 400000) (hs : storeOk l = true) {k : Nat} (hk : l.length < k) : redpencilref14_Visible.f k l = some (visOf l) := by
 have := ord_len hs
 unfold redpencilref14_Visible.f redpencilref14_Order.f
 rw [if_pos ⟨hl, hs⟩, Option.bind_some]
 exact jvis_from _ (by omega) _ k 0 (Nat.zero_add _) (by omega)
end Go.Proofs.YtmbndijbpgobeaaGreat.PWalk
end
section
namespace Go.Proofs.YtmbndijbpgobeaaGreat.PWalk
open Go.RowKit Go.Proofs.YtmbndijbpgobeaaGreatW.PrintWords Go.Proofs.YtmbndijbpgobeaaGreatW.PrintLast Go.Proofs.YtmbndijbpgobeaaGreatW.PrintMore
set_option linter.unusedVariables false
set_option linter.unusedSimpArgs false
open Go.Shelf
attribute [local go_sem] Oper.semAt_some
theorem wpList_boxRow {ops : Array Oper} {rest : List Oper} {o : Oper} {a : Act} {Q : Exit → Act → World → Prop} (hgd : o.guard = none) (s x : Operand) (ho : o.op = .store 25 s x) (hd : o.dst = none) {w : World} {g : Nat} {u : Dot}
  (hg : w.heap[g]? = some (dotC u)) (y : Dot) (hs : a.eval s = .pointer (some ⟨g, 0, none⟩)) (hx : a.eval x = vDot y)
  (hk : ∀ w', w'.heap[g]? = some (dotC y) → w.grownBy w' (some g) → wpList Tryz.prog ops Q rest a w') : wpList Tryz.prog ops Q (o :: rest) a w := by
 refine wpList_plain hgd fun K hK => ?_
 refine op_boxDot s x ho hd hg y hs hx fun w' h1 h2 => ?_
 exact hK _ _ (hk w' h1 h2)
theorem grown_cellR {V : World} {g : Nat} (j : Nat) (u : Value) : V.grownBy (V.setCell ⟨g, j, none⟩ u) (some g) :=
 ⟨rfl, rfl, rfl, by rw [World.size_setCell]; exact Nat.le_refl _, fun k hk hne => Below.heap_setCell V _ u k (fun e => hne (by rw [e]))⟩
theorem replJ_end {l : List Node} {d : Dot} {a n : Int} {rs : List Int} {r1 : List Node} {r2 c : Int} (h : replJ l d a n rs = (r1, r2)) (he : errE l d a n rs = c) (hc : c ≠ 0) : r1 = [] ∧ r2 = c := by
 rw [replJ_err he hc] at h
 cases h
 exact ⟨rfl, rfl⟩
theorem replJ_busy {l : List Node} {d : Dot} {a n : Int} {rs : List Int} {r1 : List Node} {r2 : Int} (h : replJ l d a n rs = (r1, r2)) (he : errE l d a n rs = 0) (hb : busyE l d rs.length = true) : r1 = [] ∧ r2 = 11 := by
 unfold replJ at h
 rw [if_neg (by rw [he]; decide), if_pos hb] at h
 cases h
 exact ⟨rfl, rfl⟩
theorem replJ_fin {l : List Node} {d : Dot} {a n : Int} {rs : List Int} {r1 : List Node} {r2 : Int} (h : replJ l d a n rs = (r1, r2)) (he : errE l d a n rs = 0) (hb : busyE l d rs.length = false) : r1 = joinJ (joinJ [] ((cutV l a n).map deadN)) (chainE d (leftE l a) (lastOf l) rs) ∧ r2 = 0 := by
 unfold replJ at h
 rw [if_neg (by rw [he]; decide), if_neg (by rw [hb]; decide)] at h
 cases h
 exact ⟨rfl, rfl⟩
theorem fold_le {M : Int} : ∀ (l : List Node) (t : Int), t ≤ M → (∀ x ∈ l, x.f2 ≤ M) → l.foldl (fun t x => mx t x.f2) t ≤ M
 | [], _, h, _ => h
 | x :: l, t, h, hx => by
  rw [List.foldl_cons]
  refine fold_le l _ ?_ fun y hy => hx y (List.mem_cons_of_mem _ hy)
  have h2 := hx x (List.mem_cons_self ..)
  unfold mx
  split <;> omega
theorem last_le {l : List Node} (h : storeOk l = true) : 0 ≤ lastOf l ∧ lastOf l ≤ 4611686018427387904 := by
 refine ⟨last_ge l 0, fold_le l 0 (by omega) fun x hx => ?_⟩
 unfold storeOk at h
 rw [Bool.and_eq_true, List.all_eq_true] at h
 have := of_decide_eq_true (h.1 x hx)
 exact this.2.2.2.2.1
theorem gone_q {v : List Node} {a q : Nat} {x : Node} (h : v[q]? = some x) (ha : a ≤ q) : joinJ (joinJ [] (((v.take q).drop a).map deadN)) [deadN x] = joinJ [] (((v.take (q + 1)).drop a).map deadN) := by
 obtain ⟨k, rfl⟩ : ∃ k, q = a + k := ⟨q - a, by omega⟩
 exact gone_succ h
theorem jfind_in {l : List Node} {d : Dot} {j : Nat} (h : l.findIdx? (dotIs d) = some j) : d ∈ l.map (·.f0) := by
 obtain ⟨hj, h1, _⟩ := List.findIdx?_eq_some_iff_getElem.1 h
 refine List.mem_map.2 ⟨l[j], List.getElem_mem hj, ?_⟩
 unfold dotIs at h1
 rw [Bool.and_eq_true, beq_iff_eq, beq_iff_eq] at h1
 exact Dot.ext_iff'.2 h1
theorem jfind_out {l : List Node} {d : Dot} (h : l.findIdx? (dotIs d) = none) : d ∉ l.map (·.f0) := by
 intro hd
 obtain ⟨x, hx, rfl⟩ := List.mem_map.1 hd
 have := List.findIdx?_eq_none_iff.1 h x hx
 rw [jis_self] at this
 cases this
def redpencilref15_Replace.f (l0 : List Node) (a1_0 a1_1 a2 a3 : Int) (l4 : List Int) : Option (List Node × Int) := if l0.length ≤ 100000 ∧ l4.length ≤ 20000 then some (replJ l0 ⟨a1_0, a1_1⟩ a2 a3 l4) else none
def rp28Inv (W0 : World) (A0 : Option Addr) (al : Addr) (n c0 k c4 q3 gd gp : Nat) (late r : Int) (d p : Dot) (z1 z2 z3 z5 z7 z8 z9 z10 z11 z12 z13 z14 z15 z16 z19 z20 z21 z22 z23 z24 z25 z26 z27 z28 z29 z30 z31 z32 z33 z34 z35 z36 z37 z38 z39 z40 z41 z42 z43 z44 z45 z46 z47 z48 z49 z50 z51 z52 z53 z54 z55 z56 z57 z58 z59 z60 z61 z62 z63 z64 z65 z66 z67 z68 z69 z70 z71 z72 z73 z74 z75 z76 z77 z78 z79 z80 z81 z82 z83 z84 z85 z86 z87 z88 z89 z90 z91 z92 z93 z94 z95 z96 z97 z98 z99 z100 z101 z102 z103 z104 z105 z106 z107 z108 z109 z110 z111 z112 z113 z114 z115 z116 z117 z118 z119 z120 z121 z122 z123 z124 z125 z126 z127 z128 z129 z130 z131 z132 z133 z134 z135 z136 z137 z138 z139 z140 z141 z142 z143 z144 : Value) (L : Array Bool) (ac : Act) (V : World) : Prop := ∃ (l0 l1 l2 l3 l4 l5 l6 l7 l8 l9 l10 l11 l12 l13 l14 l15 l16 l17 l18 l19 : Bool) (g : Nat), L = #[l0, l1, l2, l3, l4, l5, l6, l7, l8, l9, l10, l11, l12, l13, l14, l15, l16, l17, l18, l19] ∧ ac = { tmps := #[.slice A0 n c0, z1, z2, z3, .slice (some al) k c4, z5, .pointer (some ⟨gd, 0, none⟩), z7, z8, z9, z10, z11, z12, z13, z14, z15, z16, .pointer (some ⟨gp, 0, none⟩), .int .i64 (q3 : Int), selv l18 (.pointer (some ⟨g, 0, none⟩)) (z19), z20, z21, z22, z23, z24, z25, z26, z27, z28, z29, z30, z31, z32, z33, z34, z35, z36, z37, z38, z39, z40, z41, z42, z43, z44, z45, z46, z47, z48, z49, z50, z51, z52, z53, z54, z55, z56, z57, z58, z59, z60, z61, z62, z63, z64, z65, z66, z67, z68, z69, z70, z71, z72, z73, z74, z75, z76, z77, z78, z79, z80, z81, z82, z83, z84, z85, z86, z87, z88, z89, z90, z91, z92, z93, z94, z95, z96, z97, z98, z99, z100, z101, z102, z103, z104, z105, z106, z107, z108, z109, z110, z111, z112, z113, z114, selv l0 (.pointer (some ⟨gd, 0, none⟩)) (z115), selv l1 (.int .i64 d.f0) (z116), selv l2 (.pointer (some ⟨gd, 1, none⟩)) (z117), selv l3 (.int .i64 d.f1) (z118), selv l4 (.int .i64 (q3 : Int)) (z119), selv l5 (.int .i64 (d.f1 + (q3 : Int))) (z120), selv l6 (vDot ⟨d.f0, d.f1 + (q3 : Int)⟩) (z121), selv l7 (vDot p) (z122), selv l8 (.slice A0 n c0) (z123), selv l9 (.int .i64 late) (z124), selv l10 (.int .i64 (late + 1)) (z125), selv l11 (.int .i64 (q3 : Int)) (z126), selv l12 (.int .i64 (late + 1 + (q3 : Int))) (z127), selv l13 (.slice (some al) k c4) (z128), selv l14 (.int .i64 (q3 : Int)) (z129), selv l15 (.pointer (some (al.add q3))) (z130), selv l16 (.int .i32 r) (z131), selv l17 (vNode ⟨⟨d.f0, d.f1 + (q3 : Int)⟩, p, late + 1 + (q3 : Int), r⟩) (z132), z133, z134, z135, z136, z137, z138, z139, z140, z141, z142, z143, z144], defers := [] } ∧ Aside0 (JN W0 ⟨⟨d.f0, d.f1 + (q3 : Int)⟩, p, late + 1 + (q3 : Int), r⟩ l18 l19 g V)
set_option maxHeartbeats 8000000 in
set_option maxRecDepth 100000 in
theorem redpencilref15_Replace.calls (A0 : Option Addr) (c0 : Nat) (l0 : List Node) (a1_0 a1_1 a2 a3 : Int) (A4 : Option Addr) (c4 : Nat) (l4 : List Int) (r1 : List Node) (r2 : Int) (w : World) (hr0 : Kd.C k53 w A0 l0.length l0) (hc0 : l0.length ≤ c0) (hr4 : Kd.C (Kd.int .i32) w A4 l4.length l4) (hc4 : l4.length ≤ c4) (h : redpencilref15_Replace.f l0 a1_0 a1_1 a2 a3 l4 = some (r1, r2)) :
  Calls Tryz.prog 12 #[.slice A0 l0.length c0, .agg #[.int .i64 a1_0, .int .i64 a1_1], .int .i64 a2, .int .i64 a3, .slice A4 l4.length c4] w fun e w' => ∃ v0_ : Value, e = .returned (.tuple #[v0_, .int .i64 r2]) ∧ Kd.R k53 53 w' w.heap.size (fun _ => True) v0_ r1 ∧ Below w.heap.size w w' := by
 unfold redpencilref15_Replace.f at h
 by_cases hl : l0.length ≤ 100000 ∧ l4.length ≤ 20000
 rotate_left
 ·
  rw [if_neg hl] at h; cases h
 rw [if_pos hl] at h
 obtain ⟨d, hd⟩ : ∃ d : Dot, d = ⟨a1_0, a1_1⟩ := ⟨_, rfl⟩
 rw [← hd] at h
 rw [show a1_0 = d.f0 by rw [hd], show a1_1 = d.f1 by rw [hd]]
 clear hd
 have HRES := Aside0.mk (Option.some.inj h)
 obtain ⟨n, Hn⟩ : ∃ n, Aside0 (l0.length = n) := ⟨_, ⟨rfl⟩⟩
 obtain ⟨m, Hm⟩ : ∃ m, Aside0 (l4.length = m) := ⟨_, ⟨rfl⟩⟩
 obtain ⟨b, Hb⟩ : ∃ b, Aside0 (wellB l0 = b) := ⟨_, ⟨rfl⟩⟩
 obtain ⟨dv, Hdv⟩ : ∃ b, Aside0 (dotOk d = b) := ⟨_, ⟨rfl⟩⟩
 obtain ⟨late, Hla⟩ : ∃ t, Aside0 (lastOf l0 = t) := ⟨_, ⟨rfl⟩⟩
 have HL : Aside0 (n ≤ 100000 ∧ m ≤ 20000) := ⟨by rw [← Hn.out, ← Hm.out]; exact hl⟩
 have HWELL : Aside0 (∀ W, Below w.heap.size w W → Calls Tryz.prog 35 #[.slice A0 n c0] W fun e w' => e = .returned (.bool b) ∧ Below W.heap.size W w') := ⟨fun W hb => by
  rw [← Hn.out]
  exact redpencilref14_Well.calls (l0.length + l0.length + 2) A0 c0 l0 b W (Kd.C_below hr0 hb) hc0 (by rw [jwell_is (by omega) (by omega), Hb.out])⟩
 have HVIS : Aside0 (storeOk l0 = true → ∀ W, Below w.heap.size w W → Calls Tryz.prog 38 #[.slice A0 n c0] W fun e w' => ∃ v0_ : Value, e = .returned v0_ ∧ RN w' W.heap.size v0_ (visOf l0) ∧ Below W.heap.size W w') := ⟨fun hs W hb => by
  rw [← Hn.out]
  exact redpencilref14_Visible.calls (l0.length + 1) A0 c0 l0 (visOf l0) W (Kd.C_below hr0 hb) hc0 (jvis_is (by omega) hs (by omega))⟩
 have HLATE : Aside0 (storeOk l0 = true → ∀ W, Below w.heap.size w W → Calls Tryz.prog 24 #[.slice A0 n c0] W fun e w' => e = .returned (.int .i64 late) ∧ Below W.heap.size W w') := ⟨fun hs W hb => by
  rw [← Hn.out]
  exact redpencilref15_Latest.calls (l0.length + 1) A0 c0 l0 late W (Kd.C_below hr0 hb) hc0 (by rw [jlatest_is (by omega) (by omega), if_pos hs, Hla.out])⟩
 have HFIND : Aside0 (∀ (e : Dot) W, Below w.heap.size w W → Calls Tryz.prog 39 #[.slice A0 n c0, .agg #[.int .i64 e.f0, .int .i64 e.f1]] W fun r w' => r = .returned (.int .i64 (idxFrom (dotIs e) l0)) ∧ Below W.heap.size W w') := ⟨fun e W hb => by
  rw [← Hn.out]
  exact redpencilref14_Find.calls (l0.length + 1) A0 c0 l0 e.f0 e.f1 _ W (Kd.C_below hr0 hb) hc0 (jfind_is l0 (by omega) e (by omega))⟩
 have HDC := Aside0.mk (blk_new w (dotC d))
 have HB := Aside0.mk (below_alloc (Below.refl _ w) (dotC d))
 have HR4 := Aside0.mk hr4
 rw [Hm.out] at HR4
 rw [Hn.out, Hm.out]
 have hu := Tryz.underlying53
 have hu2 := Tryz.underlying25
 clear h hl hr0 hc0 hr4 hc4
 go_enter Tryz.func12, Tryz.ntmps12
 go_wp2_with fail
 refine (HWELL.out _ HB.out).mono ?_
 rintro e V0 ⟨rfl, hb⟩
 have HDC := Aside0.mk (blk_keep HDC.out hb)
 have HB := Aside0.mk (below_more HB.out hb)
 clear hb HWELL
 cases b with
 | false =>
  have HEND := Aside0.mk (replJ_end HRES.out (err2 (.inl Hb.out)) (by decide))
  go_wp2
  go_ret2
  rw [HEND.out.1, HEND.out.2]
  exact ⟨_, rfl, Kd.R_nil _ _ _ _ _, HB.out⟩
 | true =>
 obtain ⟨x0, x1⟩ := dot_cells HDC.out
 go_wp2_with fail
 clear x0 x1
 refine (redpencilref14_IsDot.calls _ _ dv _ (by rw [jdot_is, Hdv.out])).mono ?_
 rintro e V1 ⟨rfl, hb⟩
 have HDC := Aside0.mk (blk_keep HDC.out hb)
 have HB := Aside0.mk (below_more HB.out hb)
 clear hb
 cases dv with
 | false =>
  have HEND := Aside0.mk (replJ_end HRES.out (err2 (.inr Hdv.out)) (by decide))
  go_wp2
  go_ret2
  rw [HEND.out.1, HEND.out.2]
  exact ⟨_, rfl, Kd.R_nil _ _ _ _ _, HB.out⟩
 | true =>
 have HS : Aside0 (storeOk l0 = true) := ⟨well_store (List.isEmpty_iff.1 Hb.out)⟩
 go_wp2_with fail
 refine (HVIS.out HS.out _ HB.out).mono ?_
 rintro e V2 ⟨vv, rfl, hrv, hb⟩
 obtain ⟨Av, cv, rfl⟩ := RN.slice hrv
 obtain ⟨v, Hv⟩ : ∃ v, Aside0 (visOf l0 = v) := ⟨_, ⟨rfl⟩⟩
 rw [Hv.out] at hrv ⊢
 obtain ⟨nv, Hnv⟩ : ∃ k, Aside0 (v.length = k) := ⟨_, ⟨rfl⟩⟩
 rw [Hnv.out] at hrv ⊢
 have HV := Aside0.mk (RN.C hrv).2.2
 have HVC := Aside0.mk (RN.C hrv).2.1
 have HDC := Aside0.mk (blk_keep HDC.out hb)
 have HB := Aside0.mk (below_more HB.out hb)
 have hnv : nv ≤ 100000 := by have h1 := vis_len HS.out; have h2 := Hn.out; have h3 := HL.out; have h4 := Hnv.out; rw [Hv.out] at h1; omega
 clear hb hrv HVIS
 by_cases hc3 : a2 < 0 ∨ a3 < 0 ∨ a2 > (nv : Int) ∨ a3 > (nv : Int) - a2
 ·
  have h3 : spanE l0 a2 a3 = 3 := span3 Hb.out (by rw [Hv.out, Hnv.out]; exact hc3)
  have HEND := Aside0.mk (replJ_end HRES.out ((err3 Hb.out Hdv.out (by rw [h3]; decide)).trans h3) (by decide))
  clear h3
  by_cases p1 : a2 < 0
  ·
   go_wp2
   go_ret2
   rw [HEND.out.1, HEND.out.2]
   exact ⟨_, rfl, Kd.R_nil _ _ _ _ _, HB.out⟩
  ·
   by_cases p2 : a2 > (nv : Int)
   ·
    go_wp2
    go_ret2
    rw [HEND.out.1, HEND.out.2]
    exact ⟨_, rfl, Kd.R_nil _ _ _ _ _, HB.out⟩
   ·
    by_cases p3 : a3 < 0
    ·
     go_wp2
     go_ret2
     rw [HEND.out.1, HEND.out.2]
     exact ⟨_, rfl, Kd.R_nil _ _ _ _ _, HB.out⟩
    ·
     have p4 : a3 > (nv : Int) - a2 := by omega
     clear hc3
     go_wp2
     go_ret2
     rw [HEND.out.1, HEND.out.2]
     exact ⟨_, rfl, Kd.R_nil _ _ _ _ _, HB.out⟩
 have HSP : Aside0 (spanE l0 a2 a3 = 0) := ⟨span0 Hb.out (by rw [Hv.out, Hnv.out]; exact hc3)⟩
 obtain ⟨at_, rfl⟩ : ∃ q : Nat, a2 = (q : Int) := ⟨a2.toNat, by omega⟩
 obtain ⟨nn, rfl⟩ : ∃ q : Nat, a3 = (q : Int) := ⟨a3.toNat, by omega⟩
 have hcut : at_ + nn ≤ nv := by omega
 have p1 : ¬ ((at_ : Int) < 0) := by omega
 have p2 : ¬ ((at_ : Int) > (nv : Int)) := by omega
 have p3 : ¬ ((nn : Int) < 0) := by omega
 have p4 : ¬ ((nn : Int) > (nv : Int) - (at_ : Int)) := by omega
 clear hc3
 by_cases hc5 : (nn : Int) > 10000 ∨ (m : Int) > 10000
 ·
  have HEND := Aside0.mk (replJ_end HRES.out (err5 Hb.out Hdv.out HSP.out (by rw [Hm.out]; exact hc5)) (by decide))
  by_cases p5 : (m : Int) > 10000
  ·
   go_wp2
   go_ret2
   rw [HEND.out.1, HEND.out.2]
   exact ⟨_, rfl, Kd.R_nil _ _ _ _ _, HB.out⟩
  ·
   have p6 : (nn : Int) > 10000 := by omega
   clear hc5
   go_wp2
   go_ret2
   rw [HEND.out.1, HEND.out.2]
   exact ⟨_, rfl, Kd.R_nil _ _ _ _ _, HB.out⟩
 have p5 : ¬ (m : Int) > 10000 := by omega
 have p6 : ¬ (nn : Int) > 10000 := by omega
 have HP5 : Aside0 (¬ ((l4.length : Nat) : Int) > 10000) := ⟨by rw [Hm.out]; exact p5⟩
 have HP6 : Aside0 (¬ (nn : Int) > 10000) := ⟨by omega⟩
 clear hc5
 obtain ⟨gd, Hgd⟩ : ∃ g, Aside0 (w.heap.size = g) := ⟨_, ⟨rfl⟩⟩
 rw [Hgd.out] at HDC
 go_wp2_with fail
 rw [Hgd.out]
 have HLATE : Aside0 (∀ W, Below V2.heap.size V2 W → Calls Tryz.prog 24 #[.slice A0 n c0] W fun e w' => e = .returned (.int .i64 late) ∧ Below W.heap.size W w') := ⟨fun W hb => HLATE.out HS.out W (below_more HB.out hb)⟩
 have HFIND : Aside0 (∀ (e : Dot) W, Below V2.heap.size V2 W → Calls Tryz.prog 39 #[.slice A0 n c0, .agg #[.int .i64 e.f0, .int .i64 e.f1]] W fun r w' => r = .returned (.int .i64 (idxFrom (dotIs e) l0)) ∧ Below W.heap.size W w') := ⟨fun e W hb => HFIND.out e W (below_more HB.out hb)⟩
 have HR4 := Aside0.mk (Kd.C_below HR4.out HB.out)
 go_loopw [13] (fun i wr => ∃ k : Nat, i = .int .i64 k ∧ k ≤ m ∧ Aside0 (∀ (j : Nat) (r : Int), j < k → l4[j]? = some r → runeOk r = true) ∧ Aside0 (Below V2.heap.size V2 wr)) (fun i _ => m - (intOf i).toNat)
 case atStart => exact ⟨0, rfl, Nat.zero_le _, ⟨fun j r h => absurd h (Nat.not_lt_zero _)⟩, ⟨Below.refl _ _⟩⟩
 case round =>
  obtain ⟨k, rfl, hk, HOK, HVB⟩ := hrel
  by_cases hlt : k < m
  ·
   obtain ⟨r, Hr⟩ : ∃ r, Aside0 (l4[k]? = some r) := ⟨_, ⟨List.getElem?_eq_getElem (by rw [Hm.out]; exact hlt)⟩⟩
   obtain ⟨t, Ht⟩ : ∃ t, Aside0 (runeOk r = t) := ⟨_, ⟨rfl⟩⟩
   obtain ⟨al, e, x0⟩ := rune_at HR4.out HVB.out k r Hr.out
   subst e
   go_wp2_with fail
   clear x0
   refine (redpencilref14_IsRune.calls r t _ (by rw [jrune_ok, Ht.out])).mono ?_
   rintro e V4 ⟨rfl, hb⟩
   have HVB := Aside0.mk (below_more HVB.out hb.below)
   clear hb
   cases t with
   | false =>
    have HEND := Aside0.mk (replJ_end HRES.out (err13 Hb.out Hdv.out HSP.out (by have := HP6.out; omega) (by have := HP5.out; omega) (List.mem_of_getElem? Hr.out) Ht.out) (by decide))
    go_wp2
    go_ret2
    rw [HEND.out.1, HEND.out.2]
    exact ⟨_, rfl, Kd.R_nil _ _ _ _ _, below_more HB.out HVB.out⟩
   | true =>
    have HOK : Aside0 (∀ (j : Nat) (r : Int), j < k + 1 → l4[j]? = some r → runeOk r = true) := ⟨fun j r' hj hr => by
     rcases Nat.lt_succ_iff_lt_or_eq.1 hj with h | rfl
     ·
      exact HOK.out j r' h hr
     ·
      rw [Hr.out] at hr; cases hr; exact Ht.out⟩
    go_wp2
    go_roundw
    case rel => exact ⟨k + 1, by go_num, by omega, HOK, HVB⟩
    case measure => simp [intOf]; omega
  obtain rfl : k = m := by omega
  have HALL : Aside0 (∀ r ∈ l4, runeOk r = true) := ⟨fun r hr => by
   obtain ⟨j, hj⟩ := List.getElem?_of_mem hr
   exact HOK.out j r (by rw [← Hm.out]; exact (List.getElem?_eq_some_iff.1 hj).1) hj⟩
  clear HOK hlt hk
  obtain ⟨wr1, rfl⟩ : ∃ W0, W0 = wr := ⟨_, rfl⟩
  have hdf : 1 ≤ d.f1 ∧ d.f1 ≤ 4294967295 := by have := of_decide_eq_true Hdv.out; exact ⟨this.2.2.1, this.2.2.2⟩
  obtain ⟨x0, x1⟩ := dot_cells (blk_keep HDC.out HVB.out)
  by_cases hc14 : d.f1 > 4294967296 - (k : Int)
  ·
   have HEND := Aside0.mk (replJ_end HRES.out (err14 Hb.out Hdv.out HSP.out (by have := HP6.out; omega) (by have := HP5.out; omega) HALL.out (.inl (by rw [Hm.out]; exact hc14))) (by decide))
   have p7 : (k : Int) > 4294967295 - d.f1 + 1 := by omega
   clear hc14
   go_wp2
   go_ret2
   rw [HEND.out.1, HEND.out.2]
   exact ⟨_, rfl, Kd.R_nil _ _ _ _ _, below_more HB.out HVB.out⟩
  have p7 : ¬ (k : Int) > 4294967295 - d.f1 + 1 := by omega
  have HC14 := Aside0.mk hc14
  clear hc14
  go_wp2_with fail
  clear x0 x1
  refine (HLATE.out _ HVB.out).mono ?_
  rintro e V4 ⟨rfl, hb⟩
  have HVB := Aside0.mk (below_more HVB.out hb)
  clear hb
  have hla : 0 ≤ late ∧ late ≤ 4611686018427387904 := by rw [← Hla.out]; exact last_le HS.out
  have HLE : Aside0 (lateE l0 = late) := ⟨by unfold lateE; rw [if_pos HS.out, Hla.out]⟩
  by_cases hc15 : late > 4611686018427387904 - (k : Int)
  ·
   have HEND := Aside0.mk (replJ_end HRES.out (err14 Hb.out Hdv.out HSP.out (by have := HP6.out; omega) (by have := HP5.out; omega) HALL.out (.inr (by rw [Hm.out, HLE.out]; exact hc15))) (by decide))
   have p8 : (k : Int) > 4611686018427387904 - late := by omega
   clear hc15
   go_wp2
   go_ret2
   rw [HEND.out.1, HEND.out.2]
   exact ⟨_, rfl, Kd.R_nil _ _ _ _ _, below_more HB.out HVB.out⟩
  have p8 : ¬ (k : Int) > 4611686018427387904 - late := by omega
  have HERR : Aside0 (errE l0 d at_ nn l4 = 0) := ⟨err0 Hb.out Hdv.out HSP.out (by have := HP6.out; omega) (by have := HP5.out; omega) HALL.out (by rw [Hm.out]; have := HC14.out; omega) (by rw [Hm.out, HLE.out]; exact hc15)⟩
  have HD : Aside0 (0 ≤ d.f1 ∧ d.f1 + (k : Int) ≤ 4294967296) := ⟨by have := HC14.out; omega⟩
  have HLA : Aside0 (0 ≤ late ∧ late + (k : Int) ≤ 4611686018427387904) := ⟨by omega⟩
  clear hc15 HLE
  go_wp2_with fail
  clear p7 p8 hla hdf HC14 HALL HP5 HP6 HSP
  go_loopw [14, 15] (fun s i wr => ∃ (q : Nat) (Ao : Option Addr) (no co : Nat), s = .slice Ao no co ∧ i = .int .i64 q ∧ at_ ≤ q ∧ q ≤ at_ + nn ∧ no ≤ q ∧ Aside0 (RN wr V2.heap.size (.slice Ao no co) (joinJ [] (((v.take q).drop at_).map deadN))) ∧ Aside0 (Below V2.heap.size V2 wr)) (fun _ i _ => at_ + nn - (intOf i).toNat)
  case atStart =>
   refine ⟨at_, none, 0, 0, rfl, rfl, Nat.le_refl _, Nat.le_add_right _ _, Nat.zero_le _, ⟨?_⟩, HVB⟩
   rw [List.drop_eq_nil_of_le (by rw [List.length_take]; omega)]
   exact Kd.R_nil _ _ _ _ _
  case round =>
   obtain ⟨q, Ao, no, co, rfl, rfl, hq1, hq2, hno, HO, HVB⟩ := hrel
   by_cases hlt : q < at_ + nn
   ·
    obtain ⟨x, Hx⟩ : ∃ x, Aside0 (v[q]? = some x) := ⟨_, ⟨List.getElem?_eq_getElem (by rw [Hnv.out]; omega)⟩⟩
    have HST := Aside0.mk (gone_q Hx.out hq1)
    obtain ⟨o, Ho⟩ : ∃ o, Aside0 (joinJ [] (((v.take q).drop at_).map deadN) = o) := ⟨_, ⟨rfl⟩⟩
    rw [Ho.out] at HO HST
    have HOL : Aside0 (o.length = no) := ⟨(RN.C HO.out).1⟩
    obtain ⟨ad, e, y0, y1, y2, y3, y4, y5⟩ := node_at HV.out HVB.out q x Hx.out
    subst e
    have g1 : decide ((q : Int) < (at_ : Int) + (nn : Int)) = true := decide_eq_true (by omega)
    have hqv : q < nv := by omega
    go_upto_region 20 with (fail)
    have hb0 := below_alloc (Below.refl wr.heap.size wr) (boxN x)
    have HKB := Aside0.mk (blk_new wr (boxN x))
    have HGX := Aside0.mk HVB.out.size
    have HOX : Aside0 (∀ g, (Value.slice Ao no co).ownBlock = some g → g ≠ wr.heap.size) := ⟨fun g hg => Nat.ne_of_lt (RN.lt HO.out hg)⟩
    have HO := Aside0.mk (RN.below' HO.out hb0)
    have HVB := Aside0.mk (below_more HVB.out hb0)
    clear hb0 y0 y1 y2 y3 y4 y5 g1
    generalize wr.alloc (boxN x) = V5 at *
    generalize wr.heap.size = gx at *
    have c5 : V5.cell? ⟨gx, 5, none⟩ = some (.int .i32 x.f3) := (blk_cell HKB.out 5).trans rfl
    have f5 := blk_frozen HKB.out 5
    go_upto_region 21 with (fail)
    clear c5 f5
    have hg : V5.grownBy (V5.setCell ⟨gx, 5, none⟩ (.int .i32 0)) (some gx) := grown_cellR 5 _
    have HKB : Aside0 ((V5.setCell ⟨gx, 5, none⟩ (.int .i32 0)).heap[gx]? = some (boxN (deadN x))) := ⟨blk_set HKB.out 5 (.int .i32 0)⟩
    have HO2 := Aside0.mk (RN.keep HO.out (fun g hgo => hg.block g (RN.lt HO.out hgo) (fun e => HOX.out g hgo (Option.some.inj e))))
    have HVB := Aside0.mk (HVB.out.grown hg HVB.out.size (fun q e => by cases e; exact HGX.out))
    clear hg HO
    generalize V5.setCell ⟨gx, 5, none⟩ (.int .i32 0) = V6 at *
    obtain ⟨x0, x1, x2, x3, x4, x5⟩ := box_six HKB.out
    have hb0 := below_alloc (Below.refl V6.heap.size V6) (boxN (deadN x))
    have hsz := Nat.le_trans HVB.out.size hb0.size
    have hcall := redpencilref14_Join.calls Ao co o (some ⟨V6.heap.size, 0, none⟩) 1 [deadN x] (joinJ o [deadN x]) (V6.alloc (boxN (deadN x))) (by rw [HOL.out]; exact (RN.C (RN.below' HO2.out hb0)).2.2) (by rw [HOL.out]; exact (RN.C HO2.out).2.1) (boxN_C (blk_new V6 (boxN (deadN x)))) (Nat.le_refl _) (by unfold redpencilref14_Join.f; rw [if_pos (by rw [HOL.out, List.length_singleton]; omega)])
    rw [HOL.out] at hcall
    have HCALL := Aside0.mk hcall
    clear hcall
    go_wp2_with fail
    clear x0 x1 x2 x3 x4 x5
    refine HCALL.out.mono ?_
    rintro e V7 ⟨v7, rfl, hr7, hb7⟩
    obtain ⟨A7, c7, rfl⟩ := RN.slice hr7
    have HVB := Aside0.mk (below_more (below_more HVB.out hb0) hb7)
    have hle := joinJ_le [deadN x] o
    rw [HOL.out, List.length_singleton] at hle
    have HO7 := Aside0.mk (Kd.R_lower hr7 hsz)
    obtain ⟨n7, Hn7⟩ : ∃ k, Aside0 ((joinJ o [deadN x]).length = k) := ⟨_, ⟨rfl⟩⟩
    rw [Hn7.out] at HO7 hle ⊢
    rw [HST.out] at HO7
    clear hr7 hb7 hb0 hsz HCALL HKB HO2
    go_wp2
    go_roundw
    case rel => exact ⟨q + 1, A7, n7, c7, rfl, by go_num, by omega, by omega, by omega, HO7, HVB⟩
    case measure => simp [intOf]; omega
   have hqe : q = at_ + nn := by omega
   have HGO : Aside0 (joinJ [] (((v.take q).drop at_).map deadN) = joinJ [] ((cutV l0 at_ nn).map deadN)) := ⟨by
    unfold cutV
    rw [Hv.out, hqe, show ((at_ : Int) + (nn : Int)).toNat = at_ + nn by omega, Int.toNat_natCast]⟩
   obtain ⟨gone, Hgo⟩ : ∃ g, Aside0 (joinJ [] ((cutV l0 at_ nn).map deadN) = g) := ⟨_, ⟨rfl⟩⟩
   rw [HGO.out, Hgo.out] at HO
   have hno2 : no ≤ 100000 := by omega
   have g1 : decide ((q : Int) < (at_ : Int) + (nn : Int)) = false := decide_eq_false (by omega)
   obtain ⟨wr2, rfl⟩ : ∃ W0, W0 = wr := ⟨_, rfl⟩
   clear hlt hq1 hq2 hno hqe HGO
   go_upto_region 23 with (fail)
   have hb0 := below_alloc (Below.refl wr2.heap.size wr2) (dotC ⟨0, 0⟩)
   have HPZ := Aside0.mk (blk_new wr2 (dotC ⟨0, 0⟩))
   have HGP := Aside0.mk HVB.out.size
   have HOX : Aside0 (∀ g, (Value.slice Ao no co).ownBlock = some g → g ≠ wr2.heap.size) := ⟨fun g hg => Nat.ne_of_lt (RN.lt HO.out hg)⟩
   have HO := Aside0.mk (RN.below' HO.out hb0)
   have HVB := Aside0.mk (below_more HVB.out hb0)
   clear hb0 g1
   generalize wr2.alloc (dotC ⟨0, 0⟩) = V5 at *
   generalize wr2.heap.size = gp at *
   obtain ⟨p0, Hp0⟩ : ∃ p, Aside0 (leftE l0 at_ = p) := ⟨_, ⟨rfl⟩⟩
   rcases Nat.eq_zero_or_pos at_ with ha | ha
   case' inl =>
    have HP0 : Aside0 (p0 = ⟨0, 0⟩) := ⟨by rw [← Hp0.out, ha]; rfl⟩
    have HPC : Aside0 (V5.heap[gp]? = some (dotC p0)) := ⟨by rw [HP0.out]; exact HPZ.out⟩
    have hat0 : decide (0 < at_) = false := decide_eq_false (by omega)
    have hat1 : decide ((at_ : Int) > 0) = false := decide_eq_false (by omega)
    obtain ⟨V6, rfl⟩ : ∃ W0, W0 = V5 := ⟨_, rfl⟩
    clear HP0 ha
    go_upto_region 25 with (fail)
    clear hat0 hat1
   case' inr =>
    obtain ⟨j, hj⟩ : ∃ j : Nat, at_ = j + 1 := ⟨at_ - 1, by omega⟩
    obtain ⟨x, Hx⟩ : ∃ x, Aside0 (v[j]? = some x) := ⟨_, ⟨List.getElem?_eq_getElem (by rw [Hnv.out]; omega)⟩⟩
    have HP0 : Aside0 (x.f0 = p0) := ⟨by
     rw [← Hp0.out]
     unfold leftE
     rw [if_neg (by omega), Hv.out, show ((at_ : Int) - 1).toNat = j by omega, Hx.out]
     rfl⟩
    obtain ⟨ad, e, y0, y1, y2, y3, y4, y5⟩ := node_at HV.out HVB.out j x Hx.out
    subst e
    have hat0 : decide (0 < at_) = true := decide_eq_true ha
    have hat1 : decide ((at_ : Int) > 0) = true := decide_eq_true (by omega)
    have hj2 : (at_ : Int) - 1 = (j : Int) := by omega
    have hjv : j < nv := by omega
    clear hj ha
    go_upto_region 25 with (refine wpList_boxRow rfl (.tmp 17) (.tmp 108) rfl rfl HPZ.out x.f0 rfl rfl ?_; intro V6 hp6 hg6)
    have HPC : Aside0 (V6.heap[gp]? = some (dotC p0)) := ⟨by rw [← HP0.out]; exact hp6⟩
    have HO := Aside0.mk (RN.keep HO.out (fun g hgo => hg6.block g (RN.lt HO.out hgo) (fun e => HOX.out g hgo (Option.some.inj e))))
    have HVB := Aside0.mk (HVB.out.grown hg6 HVB.out.size (fun q e => by cases e; exact HGP.out))
    clear y0 y1 y2 y3 y4 y5 hat0 hat1 hj2 hjv hp6 hg6 HP0
   all_goals
    clear HPZ
    go_wp2_with fail
    go_loopw [14, 18] (fun s i wr => ∃ (q : Nat) (Ao : Option Addr) (no co : Nat), s = .slice Ao no co ∧ i = .int .i64 q ∧ q ≤ k ∧ no ≤ 100000 + q ∧ Aside0 (∀ j : Nat, j < q → (⟨d.f0, d.f1 + (j : Int)⟩ : Dot) ∉ l0.map (·.f0)) ∧ Aside0 (RN wr V2.heap.size (.slice Ao no co) (joinJ gone ((List.range q).map (nodeE d p0 late l4)))) ∧ Aside0 (wr.heap[gp]? = some (dotC (parE d p0 q))) ∧ Aside0 (∀ g, (Value.slice Ao no co).ownBlock = some g → g ≠ gp) ∧ Aside0 (Below V2.heap.size V2 wr)) (fun _ i _ => k - (intOf i).toNat)
    case atStart => exact ⟨0, Ao, no, co, rfl, rfl, Nat.zero_le _, by omega, ⟨fun j h => absurd h (Nat.not_lt_zero _)⟩, HO, HPC, HOX, HVB⟩
    case round =>
     obtain ⟨q3, Ao3, no3, co3, rfl, rfl, hq3, hno3, HNO, HO, HPC, HOX, HVB⟩ := hrel
     by_cases hlt : q3 < k
     ·
      obtain ⟨r, Hr⟩ : ∃ r, Aside0 (l4[q3]? = some r) := ⟨_, ⟨List.getElem?_eq_getElem (by rw [Hm.out]; exact hlt)⟩⟩
      obtain ⟨p, Hp⟩ : ∃ p, Aside0 (parE d p0 q3 = p) := ⟨_, ⟨rfl⟩⟩
      rw [Hp.out] at HPC
      obtain ⟨al, e, _⟩ := rune_at HR4.out HVB.out q3 r Hr.out
      subst e
      obtain ⟨x, Hx⟩ : ∃ x, Aside0 (x = (⟨⟨d.f0, d.f1 + (q3 : Int)⟩, p, late + 1 + (q3 : Int), r⟩ : Node)) := ⟨_, ⟨rfl⟩⟩
      have HXE : Aside0 (nodeE d p0 late l4 q3 = x) := ⟨by rw [Hx.out]; unfold nodeE; rw [Hp.out, List.getD_eq_getElem?_getD, Hr.out]; rfl⟩
      have HKM : Aside0 (q3 < k ∧ k ≤ 20000) := ⟨hlt, HL.out.2⟩
      have HW5 : Aside0 (wrap64 (d.f1 + (q3 : Int)) = d.f1 + (q3 : Int)) := ⟨by have := HKM.out; have := HD.out; unfold wrap64; omega⟩
      have HW9 : Aside0 (wrap64 (late + 1) = late + 1) := ⟨by have := HKM.out; have := HLA.out; unfold wrap64; omega⟩
      have HW11 : Aside0 (wrap64 (late + 1 + (q3 : Int)) = late + 1 + (q3 : Int)) := ⟨by have := HKM.out; have := HLA.out; unfold wrap64; omega⟩
      go_wp2_with fail
      refine AnyOrder.wp_region (by kernel_rfl) (rp28Inv wr.drew A0 al n c0 k c4 q3 gd gp late r d p _ _ _ _ _ _ _ _ _ _ _ _ _ _ _ _ _ _ _ _ _ _ _ _ _ _ _ _ _ _ _ _ _ _ _ _ _ _ _ _ _ _ _ _ _ _ _ _ _ _ _ _ _ _ _ _ _ _ _ _ _ _ _ _ _ _ _ _ _ _ _ _ _ _ _ _ _ _ _ _ _ _ _ _ _ _ _ _ _ _ _ _ _ _ _ _ _ _ _ _ _ _ _ _ _ _ _ _ _ _ _ _ _ _ _ _ _ _ _ _ _ _ _ _ _ _ _ _ _ _ _ _ _ _ _ _ _ _ _ _) ⟨false, false, false, false, false, false, false, false, false, false, false, false, false, false, false, false, false, false, false, false, 0, rfl, rfl, ⟨⟨fun h => (by cases h), Below.refl _ _, fun h _ => (by cases h), fun h => (by cases h), fun h => (by cases h)⟩⟩⟩ ?step ?last
      case step =>
       rintro L ac V i ⟨l0, l1, l2, l3, l4, l5, l6, l7, l8, l9, l10, l11, l12, l13, l14, l15, l16, l17, l18, l19, g, rfl, rfl, HF⟩ hi K hK
       rcases AnyOrder.up hi [0, 2, 4, 6, 8, 11, 13, 14, 17, 1, 3, 5, 7, 9, 10, 12, 15, 16, 18, 19] rfl with rfl | rfl | rfl | rfl | rfl | rfl | rfl | rfl | rfl | rfl | rfl | rfl | rfl | rfl | rfl | rfl | rfl | rfl | rfl | rfl
       all_goals
        replace hi := AnyOrder.first hi rfl
        repeat (obtain ⟨ha, hi⟩ := hi; first | obtain rfl := ha | clear ha)
        clear hi
        try simp only [sel_true, selv_true] at hK ⊢
       iterate 9
        ·
         refine AnyOrder.wpOp_go rfl (by rfl) ?_
         go_wp2_with fail
         exact ⟨_, _, _, _, _, _, _, _, _, _, _, _, _, _, _, _, _, _, _, _, g, rfl, rfl, HF⟩
       iterate 2
        ·
         obtain ⟨q0, q1⟩ := dot_cells (blk_keep HDC.out (below_more HVB.out (below_more (below_drew1 (Below.refl _ wr)) HF.out.below)))
         refine AnyOrder.wpOp_go rfl (by rfl) ?_
         go_wp2_with fail
         exact ⟨_, _, _, _, _, _, _, _, _, _, _, _, _, _, _, _, _, _, _, _, g, rfl, rfl, HF⟩
       ·
        refine AnyOrder.wpOp_go rfl (by rfl) ?_
        go_wp2_with fail
        rw [HW5.out]
        exact ⟨_, _, _, _, _, _, _, _, _, _, _, _, _, _, _, _, _, _, _, _, g, rfl, rfl, HF⟩
       ·
        obtain ⟨q0, q1⟩ := dot_cells (blk_keep (blk_drew HPC.out) HF.out.below)
        refine AnyOrder.wpOp_go rfl (by rfl) ?_
        go_wp2_with fail
        exact ⟨_, _, _, _, _, _, _, _, _, _, _, _, _, _, _, _, _, _, _, _, g, rfl, rfl, HF⟩
       ·
        refine AnyOrder.wpOp_go rfl (by rfl) ?_
        go_wp2_with fail
        refine (HLATE.out V (below_more HVB.out (below_more (below_drew1 (Below.refl _ wr)) HF.out.below))).mono ?_
        rintro e V' ⟨rfl, hb⟩
        exact hK _ _ ⟨_, _, _, _, _, _, _, _, _, _, _, _, _, _, _, _, _, _, _, _, g, rfl, rfl, ⟨⟨HF.out.ord, below_more HF.out.below hb, fun h1 h2 => blk_keep (HF.out.bz h1 h2) hb, fun h => blk_keep (HF.out.bx h) hb, HF.out.ge⟩⟩⟩
       ·
        refine AnyOrder.wpOp_go rfl (by rfl) ?_
        go_wp2_with fail
        rw [HW9.out]
        exact ⟨_, _, _, _, _, _, _, _, _, _, _, _, _, _, _, _, _, _, _, _, g, rfl, rfl, HF⟩
       ·
        refine AnyOrder.wpOp_go rfl (by rfl) ?_
        go_wp2_with fail
        rw [HW11.out]
        exact ⟨_, _, _, _, _, _, _, _, _, _, _, _, _, _, _, _, _, _, _, _, g, rfl, rfl, HF⟩
       ·
        have hkm := HKM.out
        refine AnyOrder.wpOp_go rfl (by rfl) ?_
        go_wp2_with fail
        exact ⟨_, _, _, _, _, _, _, _, _, _, _, _, _, _, _, _, _, _, _, _, g, rfl, rfl, HF⟩
       ·
        obtain ⟨al', e, q0⟩ := rune_at HR4.out (below_more HVB.out (below_more (below_drew1 (Below.refl _ wr)) HF.out.below)) q3 r Hr.out
        cases e
        refine AnyOrder.wpOp_go rfl (by rfl) ?_
        go_wp2_with fail
        exact ⟨_, _, _, _, _, _, _, _, _, _, _, _, _, _, _, _, _, _, _, _, g, rfl, rfl, HF⟩
       ·
        obtain rfl : l19 = false := by cases l19 with | false => rfl | true => cases HF.out.ord rfl
        have hb1 := below_alloc (Below.refl _ V) boxZ
        refine AnyOrder.wpOp_go rfl (by rfl) ?_
        go_wp2_with fail
        exact ⟨_, _, _, _, _, _, _, _, _, _, _, _, _, _, _, _, _, _, _, _, V.heap.size, rfl, rfl, ⟨⟨fun h => (by cases h), below_more HF.out.below hb1, fun _ _ => blk_new _ _, fun h => (by cases h), fun _ => HF.out.below.size⟩⟩⟩
       ·
        refine AnyOrder.wpOp_go rfl (by rfl) ?_
        refine op_boxNode (.tmp 19) (.tmp 132) rfl rfl (HF.out.bz rfl rfl) ⟨⟨d.f0, d.f1 + (q3 : Int)⟩, p, late + 1 + (q3 : Int), r⟩ rfl rfl ?_
        intro W4 h1 h2
        exact hK _ _ ⟨_, _, _, _, _, _, _, _, _, _, _, _, _, _, _, _, _, _, _, _, g, rfl, rfl, ⟨⟨fun _ => rfl, HF.out.below.grown h2 HF.out.below.size (fun q e => by cases e; exact HF.out.ge rfl), fun _ h => (by cases h), fun _ => h1, HF.out.ge⟩⟩⟩
      case last =>
       rintro L ac V ⟨l0, l1, l2, l3, l4, l5, l6, l7, l8, l9, l10, l11, l12, l13, l14, l15, l16, l17, l18, l19, g, rfl, rfl, HF⟩ hr
       obtain ⟨rfl, rfl, rfl, rfl, rfl, rfl, rfl, rfl, rfl, rfl, rfl, rfl, rfl, rfl, rfl, rfl, rfl, rfl, rfl, rfl, -⟩ := AnyOrder.alls rfl (by kernel_rfl) hr
       clear hr
       simp only [sel_true, selv_true]
       have HX : Aside0 (V.heap[g]? = some (boxN x)) := ⟨by rw [Hx.out]; exact HF.out.bx rfl⟩
       have hbb := below_more (below_drew1 (Below.refl _ wr)) HF.out.below
       have HGX : Aside0 (gp < g) := ⟨Nat.lt_of_lt_of_le (blk_lt HPC.out) (HF.out.ge rfl)⟩
       have HO := Aside0.mk (RN.below' HO.out hbb)
       have HPC := Aside0.mk (blk_keep HPC.out hbb)
       have HVB := Aside0.mk (below_more HVB.out hbb)
       have HXD : Aside0 (x.f0 = ⟨d.f0, d.f1 + (q3 : Int)⟩) := ⟨by rw [Hx.out]⟩
       clear HF hbb Hx HW5 HW9 HW11
       generalize g = gx at *
       obtain ⟨fi, Hfi⟩ : ∃ q, Aside0 (idxFrom (dotIs x.f0) l0 = q) := ⟨_, ⟨rfl⟩⟩
       have hfd := HFIND.out x.f0 V HVB.out
       rw [Hfi.out] at hfd
       have HFD := Aside0.mk hfd
       clear hfd
       obtain ⟨x0, x1, x2, x3, x4, x5⟩ := box_six HX.out
       go_wp2_with fail
       clear x0 x1 x2 x3 x4 x5
       refine HFD.out.mono ?_
       rintro e V8 ⟨rfl, hb⟩
       have HX := Aside0.mk (blk_keep HX.out hb)
       have HPC := Aside0.mk (blk_keep HPC.out hb)
       have HPC8 := HPC
       have HO := Aside0.mk (RN.below' HO.out hb)
       have HVB := Aside0.mk (below_more HVB.out hb)
       clear hb HFD
       cases hf : l0.findIdx? (dotIs x.f0) with
       | some j =>
        have hfe : fi = (j : Int) := by rw [← Hfi.out]; unfold idxFrom; rw [hf]
        have HEND := Aside0.mk (replJ_busy HRES.out HERR.out (busy_yes (i := q3) (by rw [Hm.out]; exact hlt) (by rw [← HXD.out]; exact jfind_in hf)))
        subst hfe
        have gq : decide ((j : Int) ≥ 0) = true := decide_eq_true (by omega)
        clear hf
        go_wp2
        go_ret2
        rw [HEND.out.1, HEND.out.2]
        exact ⟨_, rfl, Kd.R_nil _ _ _ _ _, below_more HB.out HVB.out⟩
       | none =>
        have hfe : fi = -1 := by rw [← Hfi.out]; unfold idxFrom; rw [hf]
        have HNO : Aside0 (∀ j : Nat, j < q3 + 1 → (⟨d.f0, d.f1 + (j : Int)⟩ : Dot) ∉ l0.map (·.f0)) := ⟨fun j hj => by
         rcases Nat.lt_succ_iff_lt_or_eq.1 hj with h | h
         ·
          exact HNO.out j h
         ·
          subst h
          rw [← HXD.out]
          exact jfind_out hf⟩
        subst hfe
        clear hf
        have HST := Aside0.mk (rang_succ (g := gone) HXE.out)
        obtain ⟨o, Ho⟩ : ∃ o, Aside0 (joinJ gone ((List.range q3).map (nodeE d p0 late l4)) = o) := ⟨_, ⟨rfl⟩⟩
        rw [Ho.out] at HO HST
        have HOL : Aside0 (o.length = no3) := ⟨(RN.C HO.out).1⟩
        have hb0 := below_alloc (Below.refl V8.heap.size V8) (boxN x)
        have hsz := Nat.le_trans HVB.out.size hb0.size
        have hcall := redpencilref14_Join.calls Ao3 co3 o (some ⟨V8.heap.size, 0, none⟩) 1 [x] (joinJ o [x]) (V8.alloc (boxN x)) (by rw [HOL.out]; exact (RN.C (RN.below' HO.out hb0)).2.2) (by rw [HOL.out]; exact (RN.C HO.out).2.1) (boxN_C (blk_new V8 (boxN x))) (Nat.le_refl _) (by unfold redpencilref14_Join.f; rw [if_pos (by rw [HOL.out, List.length_singleton]; omega)])
        rw [HOL.out] at hcall
        have HCALL := Aside0.mk hcall
        clear hcall
        obtain ⟨x0, x1, x2, x3, x4, x5⟩ := box_six HX.out
        go_wp2_with fail
        clear x0 x1 x2 x3 x4 x5
        refine HCALL.out.mono ?_
        rintro e V9 ⟨v9, rfl, hr9, hb9⟩
        obtain ⟨A9, c9, rfl⟩ := RN.slice hr9
        have hb1 := below_more hb0 hb9
        have HX := Aside0.mk (blk_keep HX.out hb1)
        have HPC := Aside0.mk (blk_keep HPC.out hb1)
        have HVB := Aside0.mk (below_more HVB.out hb1)
        have HGL : Aside0 (∀ g, (Value.slice A9 (joinJ o [x]).length c9).ownBlock = some g → g ≠ gp) := ⟨fun g hg e => by
         have h1 := (RN.block hr9 hg).1
         have h4 := blk_lt HPC8.out
         have h5 := hb0.size
         omega⟩
        have hle := joinJ_le [x] o
        rw [HOL.out, List.length_singleton] at hle
        have HO9 := Aside0.mk (Kd.R_lower hr9 hsz)
        obtain ⟨n9, Hn9⟩ : ∃ k, Aside0 ((joinJ o [x]).length = k) := ⟨_, ⟨rfl⟩⟩
        rw [Hn9.out] at HO9 HGL hle ⊢
        rw [HST.out] at HO9
        clear hr9 hb9 hb0 hb1 hsz HCALL HO
        obtain ⟨x0, x1, x2, x3, x4, x5⟩ := box_six HX.out
        go_upto_region 27 with (refine wpList_boxRow rfl (.tmp 17) (.tmp 143) rfl rfl HPC.out x.f0 rfl rfl ?_; intro V10 hp10 hg10)
        clear x0 x1 x2 x3 x4 x5
        have HO := Aside0.mk (RN.keep HO9.out (fun g hgo => hg10.block g (RN.lt HO9.out hgo) (fun e => HGL.out g hgo (Option.some.inj e))))
        have HPC : Aside0 (V10.heap[gp]? = some (dotC (parE d p0 (q3 + 1)))) := ⟨by rw [show parE d p0 (q3 + 1) = x.f0 from HXD.out.symm]; exact hp10⟩
        have HVB := Aside0.mk (HVB.out.grown hg10 HVB.out.size (fun q e => by cases e; exact HGP.out))
        clear hp10 hg10 HO9
        go_wp2
        go_roundw
        case rel => exact ⟨q3 + 1, A9, n9, c9, rfl, by go_num, by omega, by omega, HNO, HO, HPC, HGL, HVB⟩
        case measure => simp [intOf]; omega
     ·
      obtain rfl : q3 = k := by omega
      have HEND := Aside0.mk (replJ_fin HRES.out HERR.out (by rw [Hm.out]; exact busy_no HNO.out))
      have HCH : Aside0 (r1 = joinJ gone ((List.range q3).map (nodeE d p0 late l4))) := ⟨by
       rw [HEND.out.1, Hgo.out, Hp0.out, Hla.out]
       unfold chainE
       rw [Hm.out]⟩
      go_wp2
      go_ret2
      rw [HCH.out, HEND.out.2]
      exact ⟨_, rfl, Kd.R_lower HO.out HB.out.size, below_more HB.out HVB.out⟩
end Go.Proofs.YtmbndijbpgobeaaGreat.PWalk
end
section
namespace Go.Proofs.YtmbndijbpgobeaaGreat.PWalk
open Go.RowKit Go.Proofs.YtmbndijbpgobeaaGreatW.PrintWords Go.Proofs.YtmbndijbpgobeaaGreatW.PrintLast Go.Proofs.YtmbndijbpgobeaaGreatW.PrintMore
attribute [local go_sem] max2_int max_two
set_option linter.unusedVariables false
set_option linter.unusedSimpArgs false
def redpencilref14_Stain.l0 : Nat → List (S53) → Int → Option ((List (S53)))
 | 0, _, _ => none
 | k + 1, x0, x2 => if x2 < (x0.length : Int) then (if 0 ≤ x2 then ((some (x0.set (x2 : Int).toNat (⟨(⟨(rd_T53 x0 x2).f0.f0, (rd_T53 x0 x2).f0.f1⟩ : S25), (⟨(rd_T53 x0 x2).f1.f0, (rd_T53 x0 x2).f1.f1⟩ : S25), wrap64 (((rd_T53 x0 x2).f2) + 1), (rd_T53 x0 x2).f3⟩ : S53) : List (S53))).bind fun y273 => (redpencilref14_Stain.l0 k (y273.set (x2 : Int).toNat (⟨(⟨(rd_T53 y273 x2).f0.f0, (rd_T53 y273 x2).f0.f1⟩ : S25), (⟨(rd_T53 y273 x2).f1.f0, (rd_T53 y273 x2).f1.f1⟩ : S25), (rd_T53 y273 x2).f2, 88⟩ : S53)) (wrap64 (x2 + 1)))) else (none)) else (some x0)
def redpencilref14_Stain.f (k : Nat) (l0 : List (S53)) : Option ((List (S53))) := redpencilref14_Stain.l0 k l0 0
set_option maxHeartbeats 8000000 in
set_option maxRecDepth 100000 in
theorem redpencilref14_Stain.calls (k : Nat) (P0_ : Nat → Prop) (u9000_ : Value) (l0 : List (S53)) (r : List (S53)) (w0 w : World) (hB : Below w0.heap.size w0 w) (ho0 : Kd.R k53 53 w w0.heap.size P0_ u9000_ l0) (h : redpencilref14_Stain.f k l0 = some r) :
  Calls Tryz.prog 15 #[u9000_] w fun e w' => e = .returned (.tuple #[]) ∧ Kd.R k53 53 w' w0.heap.size (fun k_ => (P0_ k_ ∨ w.heap.size ≤ k_)) u9000_ r ∧ Below w0.heap.size w0 w' ∧ Kept w w' (fun k_ => P0_ k_) := by
 have HO0 := Aside0.mk (show Kd.R k53 53 w w0.heap.size (fun k_ => (P0_ k_ ∨ w.heap.size ≤ k_)) u9000_ l0 from Kd.R_mono ho0 (fun k_ hk => (.inl hk)))
 have HK := Aside0.mk (Kept.refl w (fun k_ => P0_ k_))
 have HW0 := Aside0.mk hB.size
 have HB := Aside0.mk hB
 clear hB
 have H : (redpencilref14_Stain.l0 k l0 0) = some r := h
 clear h
 have H' := Aside0.mk H
 clear H
 go_enter Tryz.func15, Tryz.ntmps15
 go_wp2
 go_loopg [2] k (fun kq v2 w' => ∃ (x0_1 : List (S53)) (x2_1 : Int), v2 = .int .i64 x2_1 ∧ Aside0 (redpencilref14_Stain.l0 kq x0_1 x2_1 = some r) ∧ Aside0 (kq ≤ k) ∧ Aside0 (Kd.R k53 53 w' w0.heap.size (fun k_ => (P0_ k_ ∨ w.heap.size ≤ k_)) u9000_ x0_1) ∧ Aside0 (Kept w w' (fun k_ => P0_ k_)) ∧ Aside0 (Below w0.heap.size w0 w'))
 case atStart => exact ⟨(l0), (0), (by first | rfl | (simp; done) | (simp [*]; done)), H', ⟨Nat.le_refl _⟩, ⟨by (with_reducible repeat (first | apply Kd.R_alloc | apply Kd.R_drewN | apply Kd.R_drew)); exact HO0.out⟩, ⟨by repeat (first | (with_reducible first | exact HK.out | apply Kept.alloc | apply Kept.drewN | apply Kept.drew) | exact HK.out)⟩, ⟨by repeat (first | (with_reducible first | exact HB.out | apply below_alloc | apply pw_below_drewN | apply below_drew1) | exact HB.out)⟩⟩
 case round =>
  clear H'
  try clear c1
  obtain ⟨x0_1, x2_1, rfl, HA, HK1, HO_0, HK, HB⟩ := hrel
  cases gk with
  | zero => exact absurd HA.out (by simp [redpencilref14_Stain.l0])
  | succ k1 =>
   have H := HA.out
   clear HA
   simp only [redpencilref14_Stain.l0] at H
   by_cases c2 : x2_1 < (x0_1.length : Int)
   ·
    rw [if_pos c2] at H
    have c2b0 : decide (x2_1 < (x0_1.length : Int)) = true := decide_eq_true c2
    clear c2
    by_cases c3 : 0 ≤ x2_1
    ·
     rw [if_pos c3] at H
     have c3b0 : decide (0 ≤ x2_1) = true := decide_eq_true c3
     clear c3
     obtain ⟨y273, hy273⟩ : ∃ y_ : List (S53), y_ = (x0_1.set (x2_1 : Int).toNat (⟨(⟨(rd_T53 x0_1 x2_1).f0.f0, (rd_T53 x0_1 x2_1).f0.f1⟩ : S25), (⟨(rd_T53 x0_1 x2_1).f1.f0, (rd_T53 x0_1 x2_1).f1.f1⟩ : S25), wrap64 (((rd_T53 x0_1 x2_1).f2) + 1), (rd_T53 x0_1 x2_1).f3⟩ : S53)) := ⟨_, rfl⟩
     replace H : (redpencilref14_Stain.l0 k1 (y273.set (x2_1 : Int).toNat (⟨(⟨(rd_T53 y273 x2_1).f0.f0, (rd_T53 y273 x2_1).f0.f1⟩ : S25), (⟨(rd_T53 y273 x2_1).f1.f0, (rd_T53 y273 x2_1).f1.f1⟩ : S25), (rd_T53 y273 x2_1).f2, 88⟩ : S53)) (wrap64 (x2_1 + 1))) = some r := by first | (rw [hy273]; with_reducible exact H) | (have H2_ := (Option.bind_some _ _).symm.trans H; rw [hy273]; with_reducible exact H2_) | (have H2_ := (Option.bind_some _ _).symm.trans H; with_reducible exact H2_) | with_reducible exact H | (rw [hy273]; exact H) | exact H
     have Ny273 := Aside0.mk hy273
     clear hy273
     obtain ⟨y274, hy274⟩ : ∃ y_ : List (S53), y_ = (y273.set (x2_1 : Int).toNat (⟨(⟨(rd_T53 y273 x2_1).f0.f0, (rd_T53 y273 x2_1).f0.f1⟩ : S25), (⟨(rd_T53 y273 x2_1).f1.f0, (rd_T53 y273 x2_1).f1.f1⟩ : S25), (rd_T53 y273 x2_1).f2, 88⟩ : S53)) := ⟨_, rfl⟩
     replace H : (redpencilref14_Stain.l0 k1 y274 (wrap64 (x2_1 + 1))) = some r := by first | (rw [hy274]; with_reducible exact H) | (have H2_ := (Option.bind_some _ _).symm.trans H; rw [hy274]; with_reducible exact H2_) | (have H2_ := (Option.bind_some _ _).symm.trans H; with_reducible exact H2_) | with_reducible exact H | (rw [hy274]; exact H) | exact H
     have Ny274 := Aside0.mk hy274
     clear hy274
     have H' := Aside0.mk H
     clear H
     obtain ⟨Ao6, co6, eo6⟩ := Kd.R_slice HO_0.out
     subst eo6
     have p272 : 0 ≤ (x2_1 : Int) := of_decide_eq_true (by first | (with_reducible assumption) | assumption)
     have q272 : x2_1 < (x0_1.length : Int) := of_decide_eq_true (by first | (with_reducible assumption) | assumption)
     obtain ⟨ad272, e272, hx272_0, hx272_1, hx272_2, hx272_3, hx272_4, hx272_5⟩ := at_T53 (Kd.R_reads' HO_0.out).2.2 x2_1 p272 q272
     cases e272
     replace p272 := eq_true p272
     replace q272 := eq_true q272
     have p4 : 0 ≤ (x2_1 : Int) := of_decide_eq_true (by first | (with_reducible assumption) | assumption)
     have q4 : (x2_1 : Int) < ((x0_1.length : Int) : Int) := of_decide_eq_true (by first | (with_reducible assumption) | assumption)
     obtain ⟨go4, co4, eo4, gb4, gl4, cl4, HG4⟩ := Kd.R_form HO_0.out (by omega)
     (first | cases eo4 | (injection eo4 with ea_ en_ ec_; (first | subst ea_ | (injection ea_ with ea_; subst ea_)); subst ec_; clear en_))
     have GB4 := Aside0.mk gb4
     have GG4 := Aside0.mk HG4
     clear gb4 gl4 HG4
     have HMgo4 := Aside0.mk (show (P0_ go4 ∨ w.heap.size ≤ go4) from (HO_0.out.1 _ rfl))
     (first | simp only [add_plain] at hx272_0 | skip)
     (first | simp only [add_plain] at hx272_1 | skip)
     (first | simp only [add_plain] at hx272_2 | skip)
     (first | simp only [add_plain] at hx272_3 | skip)
     (first | simp only [add_plain] at hx272_4 | skip)
     (first | simp only [add_plain] at hx272_5 | skip)
     obtain ⟨ce4, hcl4, hM4, hcc4, hfr4⟩ := Kd.R_elem HO_0.out z53 (x2_1 : Int) p4 q4
     obtain rfl := k53_openM hM4
     have hx4_0 : wr.cell? ⟨go4, (x2_1 : Int).toNat * 6, none⟩ = some (.int .i64 ((rd_T53 x0_1 x2_1).f0.f0)) := hcc4 0 _ rfl
     have hx4_1 : wr.cell? ⟨go4, (x2_1 : Int).toNat * 6 + 1, none⟩ = some (.int .i64 ((rd_T53 x0_1 x2_1).f0.f1)) := hcc4 1 _ rfl
     have hx4_2 : wr.cell? ⟨go4, (x2_1 : Int).toNat * 6 + 2, none⟩ = some (.int .i64 ((rd_T53 x0_1 x2_1).f1.f0)) := hcc4 2 _ rfl
     have hx4_3 : wr.cell? ⟨go4, (x2_1 : Int).toNat * 6 + 3, none⟩ = some (.int .i64 ((rd_T53 x0_1 x2_1).f1.f1)) := hcc4 3 _ rfl
     have hx4_4 : wr.cell? ⟨go4, (x2_1 : Int).toNat * 6 + 4, none⟩ = some (.int .i64 ((rd_T53 x0_1 x2_1).f2)) := hcc4 4 _ rfl
     have hx4_5 : wr.cell? ⟨go4, (x2_1 : Int).toNat * 6 + 5, none⟩ = some (.int .i32 ((rd_T53 x0_1 x2_1).f3)) := hcc4 5 _ rfl
     have hf4_0 : wr.frozen? ⟨go4, (x2_1 : Int).toNat * 6, none⟩ = false := hfr4 0
     have hf4_1 : wr.frozen? ⟨go4, (x2_1 : Int).toNat * 6 + 1, none⟩ = false := hfr4 1
     have hf4_2 : wr.frozen? ⟨go4, (x2_1 : Int).toNat * 6 + 2, none⟩ = false := hfr4 2
     have hf4_3 : wr.frozen? ⟨go4, (x2_1 : Int).toNat * 6 + 3, none⟩ = false := hfr4 3
     have hf4_4 : wr.frozen? ⟨go4, (x2_1 : Int).toNat * 6 + 4, none⟩ = false := hfr4 4
     have hf4_5 : wr.frozen? ⟨go4, (x2_1 : Int).toNat * 6 + 5, none⟩ = false := hfr4 5
     clear hcl4 hcc4 hfr4 hM4
     replace p4 := eq_true p4
     replace q4 := eq_true q4
     have HX7 := Aside0.mk (show Kd.R k53 53 wr w0.heap.size (fun k_ => (P0_ k_ ∨ w.heap.size ≤ k_)) (.slice (some ⟨go4, 0, none⟩) x0_1.length co6) x0_1 from (by (with_reducible repeat (first | apply Kd.R_alloc | apply Kd.R_drewN | apply Kd.R_drew)); exact HO_0.out))
     obtain ⟨ce7, hcl7, hM7, hcc7, hfr7⟩ := Kd.R_elem HX7.out z53 (x2_1 : Int) (of_decide_eq_true (by first | (with_reducible assumption) | assumption)) (by have h_ : (x2_1 : Int) < ((x0_1.length : Int) : Int) := of_decide_eq_true (by first | (with_reducible assumption) | assumption); first | exact h_ | (have e_ := (Kd.R_reads' HO_0.out).1; omega) | simpa using h_)
     obtain rfl := k53_openM hM7
     have HP7 := Kd.R_seg HX7.out (x2_1 : Int) (of_decide_eq_true (by first | (with_reducible assumption) | assumption)) (by have h_ : (x2_1 : Int) < ((x0_1.length : Int) : Int) := of_decide_eq_true (by first | (with_reducible assumption) | assumption); first | exact h_ | (have e_ := (Kd.R_reads' HO_0.out).1; omega) | simpa using h_) (seg := [.int .i64 (wrap64 (((rd_T53 x0_1 x2_1).f2) + 1))]) (j := 4) hcl7 hcc7 (show 5 ≤ 6 from by decide) (x' := (⟨(⟨(rd_T53 x0_1 x2_1).f0.f0, (rd_T53 x0_1 x2_1).f0.f1⟩ : S25), (⟨(rd_T53 x0_1 x2_1).f1.f0, (rd_T53 x0_1 x2_1).f1.f1⟩ : S25), wrap64 (((rd_T53 x0_1 x2_1).f2) + 1), (rd_T53 x0_1 x2_1).f3⟩ : S53)) (k53_mkM _ _ _ (⟨(⟨(rd_T53 x0_1 x2_1).f0.f0, (rd_T53 x0_1 x2_1).f0.f1⟩ : S25), (⟨(rd_T53 x0_1 x2_1).f1.f0, (rd_T53 x0_1 x2_1).f1.f1⟩ : S25), wrap64 (((rd_T53 x0_1 x2_1).f2) + 1), (rd_T53 x0_1 x2_1).f3⟩ : S53) ) (fun _ hk => hk)
     have hx7_4 := hcc7 4 _ rfl
     (try simp only [show (k53).sz = 6 from rfl, Nat.mul_one, Nat.add_zero] at hx7_4)
     have hf7_4 := hfr7 4
     (try simp only [show (k53).sz = 6 from rfl, Nat.mul_one, Nat.add_zero] at hf7_4)
     clear hcl7 hcc7 hfr7 hM7
     go_wp2_with (first | ((with_reducible refine gate_store (t := 3) (p := 16) rfl ?_); refine store_event (t := 3) (p := 16) (v := ?vo_w8) (w1 := (wr.setCell ⟨go4, (x2_1 : Int).toNat * 6 + 4, none⟩ (.int .i64 (wrap64 (((rd_T53 x0_1 x2_1).f2) + 1))))) ?hg ?ho ?hn ?hr ?_; (case ho => rfl); (case hg => rfl); (case hn => rfl); (case hr => first | (go_simp; done) | (go_simp; rfl)); intro w8 hw; have hg : wr.grownBy w8 (some go4) := (by rw [hw]; exact HP7.2); have hp_ : Kd.R k53 53 w8 w0.heap.size (fun k_ => (P0_ k_ ∨ w.heap.size ≤ k_)) (.slice (some ⟨go4, 0, none⟩) x0_1.length co6) y273 := (by rw [hw, Ny273.out]; exact HP7.1); clear HP7; have n0_ := Aside0.mk (hp_); have n1_ := Aside0.mk ((by rw [hw]; exact below_set (HB.out) GB4.out : Below w0.heap.size w0 w8)); have n2_ := Aside0.mk (Kept.of_grown (S := (fun k_ => P0_ k_)) hg (by repeat (first | (with_reducible first | exact HK.out | apply Kept.alloc | apply Kept.drewN | apply Kept.drew) | exact HK.out)) (fun k_ e_ => (HO_0.out.1 k_ e_))); clear HO_0; clear HB; clear HK; have HO_0 := n0_; have HB := n1_; have HK := n2_; clear n0_ n1_ n2_; clear hg hw hp_; have p5 : 0 ≤ (x2_1 : Int) := of_decide_eq_true (by first | (with_reducible assumption) | assumption); have q5 : (x2_1 : Int) < ((x0_1.length : Int) : Int) := of_decide_eq_true (by first | (with_reducible assumption) | assumption); obtain ⟨ce5, hcl5, hM5, hcc5, hfr5⟩ := Kd.R_elem HO_0.out z53 (x2_1 : Int) p5 q5; obtain rfl := k53_openM hM5; have hx5_0 : w8.cell? ⟨go4, (x2_1 : Int).toNat * 6, none⟩ = some (.int .i64 ((rd_T53 y273 x2_1).f0.f0)) := hcc5 0 _ rfl; have hx5_1 : w8.cell? ⟨go4, (x2_1 : Int).toNat * 6 + 1, none⟩ = some (.int .i64 ((rd_T53 y273 x2_1).f0.f1)) := hcc5 1 _ rfl; have hx5_2 : w8.cell? ⟨go4, (x2_1 : Int).toNat * 6 + 2, none⟩ = some (.int .i64 ((rd_T53 y273 x2_1).f1.f0)) := hcc5 2 _ rfl; have hx5_3 : w8.cell? ⟨go4, (x2_1 : Int).toNat * 6 + 3, none⟩ = some (.int .i64 ((rd_T53 y273 x2_1).f1.f1)) := hcc5 3 _ rfl; have hx5_4 : w8.cell? ⟨go4, (x2_1 : Int).toNat * 6 + 4, none⟩ = some (.int .i64 ((rd_T53 y273 x2_1).f2)) := hcc5 4 _ rfl; have hx5_5 : w8.cell? ⟨go4, (x2_1 : Int).toNat * 6 + 5, none⟩ = some (.int .i32 ((rd_T53 y273 x2_1).f3)) := hcc5 5 _ rfl; have hf5_0 : w8.frozen? ⟨go4, (x2_1 : Int).toNat * 6, none⟩ = false := hfr5 0; have hf5_1 : w8.frozen? ⟨go4, (x2_1 : Int).toNat * 6 + 1, none⟩ = false := hfr5 1; have hf5_2 : w8.frozen? ⟨go4, (x2_1 : Int).toNat * 6 + 2, none⟩ = false := hfr5 2; have hf5_3 : w8.frozen? ⟨go4, (x2_1 : Int).toNat * 6 + 3, none⟩ = false := hfr5 3; have hf5_4 : w8.frozen? ⟨go4, (x2_1 : Int).toNat * 6 + 4, none⟩ = false := hfr5 4; have hf5_5 : w8.frozen? ⟨go4, (x2_1 : Int).toNat * 6 + 5, none⟩ = false := hfr5 5; clear hcl5 hcc5 hfr5 hM5; replace p5 := eq_true p5; replace q5 := eq_true q5; have HX9 := Aside0.mk (show Kd.R k53 53 w8 w0.heap.size (fun k_ => (P0_ k_ ∨ w.heap.size ≤ k_)) (.slice (some ⟨go4, 0, none⟩) x0_1.length co6) y273 from (by (with_reducible repeat (first | apply Kd.R_alloc | apply Kd.R_drewN | apply Kd.R_drew)); exact HO_0.out)); obtain ⟨ce9, hcl9, hM9, hcc9, hfr9⟩ := Kd.R_elem HX9.out z53 (x2_1 : Int) (of_decide_eq_true (by first | (with_reducible assumption) | assumption)) (by have h_ : (x2_1 : Int) < ((x0_1.length : Int) : Int) := of_decide_eq_true (by first | (with_reducible assumption) | assumption); first | exact h_ | (have e_ := (Kd.R_reads' HO_0.out).1; omega) | simpa using h_); obtain rfl := k53_openM hM9; have HP9 := Kd.R_seg HX9.out (x2_1 : Int) (of_decide_eq_true (by first | (with_reducible assumption) | assumption)) (by have h_ : (x2_1 : Int) < ((x0_1.length : Int) : Int) := of_decide_eq_true (by first | (with_reducible assumption) | assumption); first | exact h_ | (have e_ := (Kd.R_reads' HO_0.out).1; omega) | simpa using h_) (seg := [.int .i32 88]) (j := 5) hcl9 hcc9 (show 6 ≤ 6 from by decide) (x' := (⟨(⟨(rd_T53 y273 x2_1).f0.f0, (rd_T53 y273 x2_1).f0.f1⟩ : S25), (⟨(rd_T53 y273 x2_1).f1.f0, (rd_T53 y273 x2_1).f1.f1⟩ : S25), (rd_T53 y273 x2_1).f2, 88⟩ : S53)) (k53_mkM _ _ _ (⟨(⟨(rd_T53 y273 x2_1).f0.f0, (rd_T53 y273 x2_1).f0.f1⟩ : S25), (⟨(rd_T53 y273 x2_1).f1.f0, (rd_T53 y273 x2_1).f1.f1⟩ : S25), (rd_T53 y273 x2_1).f2, 88⟩ : S53) ) (fun _ hk => hk); have hx9_5 := hcc9 5 _ rfl; (try simp only [show (k53).sz = 6 from rfl, Nat.mul_one, Nat.add_zero] at hx9_5); have hf9_5 := hfr9 5; (try simp only [show (k53).sz = 6 from rfl, Nat.mul_one, Nat.add_zero] at hf9_5); clear hcl9 hcc9 hfr9 hM9) | ((with_reducible refine gate_store (t := 21) (p := 20) rfl ?_); refine store_event (t := 21) (p := 20) (v := ?vo_w10) (w1 := (w8.setCell ⟨go4, (x2_1 : Int).toNat * 6 + 5, none⟩ (.int .i32 88))) ?hg ?ho ?hn ?hr ?_; (case ho => rfl); (case hg => rfl); (case hn => rfl); (case hr => first | (go_simp; done) | (go_simp; rfl)); intro w10 hw; have hg : w8.grownBy w10 (some go4) := (by rw [hw]; exact HP9.2); have hp_ : Kd.R k53 53 w10 w0.heap.size (fun k_ => (P0_ k_ ∨ w.heap.size ≤ k_)) (.slice (some ⟨go4, 0, none⟩) x0_1.length co6) y274 := (by rw [hw, Ny274.out]; exact HP9.1); clear HP9; have n0_ := Aside0.mk (hp_); have n1_ := Aside0.mk ((by rw [hw]; exact below_set (HB.out) GB4.out : Below w0.heap.size w0 w10)); have n2_ := Aside0.mk (Kept.of_grown (S := (fun k_ => P0_ k_)) hg (by repeat (first | (with_reducible first | exact HK.out | apply Kept.alloc | apply Kept.drewN | apply Kept.drew) | exact HK.out)) (fun k_ e_ => (HO_0.out.1 k_ e_))); clear HO_0; clear HB; clear HK; have HO_0 := n0_; have HB := n1_; have HK := n2_; clear n0_ n1_ n2_; clear hg hw hp_))
     go_roundg k1
     case measure => have := HK1.out; omega
     case rel => exact ⟨(y274), (wrap64 (x2_1 + 1)), (by first | rfl | (simp; done) | (simp [*]; done)), H', ⟨by have := HK1.out; omega⟩, ⟨by (with_reducible repeat (first | apply Kd.R_alloc | apply Kd.R_drewN | apply Kd.R_drew)); exact HO_0.out⟩, ⟨by repeat (first | (with_reducible first | exact HK.out | apply Kept.alloc | apply Kept.drewN | apply Kept.drew) | exact HK.out)⟩, ⟨by repeat (first | (with_reducible first | exact HB.out | apply below_alloc | apply pw_below_drewN | apply below_drew1) | exact HB.out)⟩⟩
    ·
     rw [if_neg c3] at H
     exact absurd H (by simp)
   ·
    rw [if_neg c2] at H
    have c2b0 : decide (x2_1 < (x0_1.length : Int)) = false := decide_eq_false c2
    clear c2
    obtain rfl := Option.some.inj H
    obtain ⟨Ao11, co11, eo11⟩ := Kd.R_slice HO_0.out
    subst eo11
    go_wp2
    first | go_end0 | ((try simp only [Exit.inBlock, Exit.then]); refine bodyPost_ret (results_none rfl _ _ _) rfl ?_)
    exact ⟨by first | rfl | (simp [errW_none, errW_some] <;> rfl) | (simp [*, errW_none, errW_some] <;> rfl), by (with_reducible repeat (first | apply Kd.R_alloc | apply Kd.R_drewN | apply Kd.R_drew)); exact HO_0.out, by repeat (first | (with_reducible first | exact HB.out | apply below_alloc | apply pw_below_drewN | apply below_drew1) | exact HB.out), by repeat (first | (with_reducible first | exact HK.out | apply Kept.alloc | apply Kept.drewN | apply Kept.drew) | exact HK.out)⟩
end Go.Proofs.YtmbndijbpgobeaaGreat.PWalk
end
section
namespace Go.Proofs.YtmbndijbpgobeaaGreat.PWalk
open Go.RowKit Go.Proofs.YtmbndijbpgobeaaGreatW.PrintWords Go.Proofs.YtmbndijbpgobeaaGreatW.PrintLast Go.Proofs.YtmbndijbpgobeaaGreatW.PrintMore
set_option linter.unusedVariables false
set_option linter.unusedSimpArgs false
open Go.Shelf
attribute [local go_sem] Oper.semAt_some
theorem inc_ext : ∀ {a b : List Node}, Inc a → Inc b → (∀ z, z ∈ a ↔ z ∈ b) → a = b
 | [], [], _, _, _ => rfl
 | [], y :: b, _, _, h => absurd ((h y).2 (List.mem_cons_self ..)) (by simp)
 | x :: a, [], _, _, h => absurd ((h x).1 (List.mem_cons_self ..)) (by simp)
 | x :: a, y :: b, ha, hb, h => by
  obtain ⟨ha1, ha2⟩ := List.pairwise_cons.1 ha
  obtain ⟨hb1, hb2⟩ := List.pairwise_cons.1 hb
  have e : x = y := by
   rcases List.mem_cons.1 ((h x).1 (List.mem_cons_self ..)) with e | hx
   ·
    exact e
   ·
    rcases List.mem_cons.1 ((h y).2 (List.mem_cons_self ..)) with e | hy
    ·
     exact e.symm
    ·
     have := dotLt_asymm (ha1 y hy)
     rw [hb1 x hx] at this
     cases this
  subst e
  rw [inc_ext ha2 hb2 fun z => ⟨fun hz => ?_, fun hz => ?_⟩]
  ·
   rcases List.mem_cons.1 ((h z).1 (List.mem_cons_of_mem _ hz)) with e | hz2
   ·
    have := ha1 z hz
    rw [e, dotLt_irrefl] at this
    cases this
   ·
    exact hz2
  ·
   rcases List.mem_cons.1 ((h z).2 (List.mem_cons_of_mem _ hz)) with e | hz2
   ·
    have := hb1 z hz
    rw [e, dotLt_irrefl] at this
    cases this
   ·
    exact hz2
theorem insP_cons (y x : Node) (o : List Node) : insP y (x :: o) = if dotLt x.f0 y.f0 = true then x :: insP y o else y :: x :: o := by
 unfold insP
 by_cases h : dotLt x.f0 y.f0 = true
 ·
  rw [if_pos h, List.takeWhile_cons, List.dropWhile_cons, if_pos h, if_pos h]; rfl
 ·
  rw [if_neg h, List.takeWhile_cons, List.dropWhile_cons, if_neg h, if_neg h]; rfl
theorem insP_mem {y z : Node} : ∀ {o : List Node}, z ∈ insP y o ↔ z = y ∨ z ∈ o
 | [] => by simp [insP]
 | x :: o => by
  rw [insP_cons]
  by_cases h : dotLt x.f0 y.f0 = true
  ·
   rw [if_pos h, List.mem_cons, insP_mem, List.mem_cons]
   constructor
   ·
    rintro (h | h | h)
    ·
     exact .inr (.inl h)
    ·
     exact .inl h
    ·
     exact .inr (.inr h)
   ·
    rintro (h | h | h)
    ·
     exact .inr (.inl h)
    ·
     exact .inl h
    ·
     exact .inr (.inr h)
  ·
   rw [if_neg h, List.mem_cons]
theorem insP_inc {y : Node} : ∀ {o : List Node}, Inc o → (∀ z ∈ o, z.f0 ≠ y.f0) → Inc (insP y o)
 | [], _, _ => List.pairwise_singleton _ _
 | x :: o, ho, hn => by
  obtain ⟨h1, h2⟩ := List.pairwise_cons.1 ho
  rw [insP_cons]
  by_cases h : dotLt x.f0 y.f0 = true
  ·
   rw [if_pos h]
   refine List.pairwise_cons.2 ⟨fun z hz => ?_, insP_inc h2 fun z hz => hn z (List.mem_cons_of_mem _ hz)⟩
   rcases insP_mem.1 hz with rfl | hz
   ·
    exact h
   ·
    exact h1 z hz
  ·
   rw [if_neg h]
   have hxy : dotLt y.f0 x.f0 = true := by
    cases hc : dotLt y.f0 x.f0 with
    | true => rfl
    | false => exact absurd (dotLt_total (Bool.eq_false_iff.2 h) hc) (hn x (List.mem_cons_self ..))
   refine List.pairwise_cons.2 ⟨fun z hz => ?_, ho⟩
   rcases List.mem_cons.1 hz with rfl | hz
   ·
    exact hxy
   ·
    exact dotLt_trans hxy (h1 z hz)
/-- Nodes of different dots, none of which a list has, put into it. -/
theorem joinJ_new : ∀ {ys o : List Node}, Inc o → (ys.map (·.f0)).Nodup → (∀ y ∈ ys, ∀ z ∈ o, z.f0 ≠ y.f0) → Inc (joinJ o ys) ∧ ∀ z, z ∈ joinJ o ys ↔ z ∈ o ∨ z ∈ ys
 | [], o, ho, _, _ => ⟨ho, fun z => by simp [joinJ]⟩
 | y :: ys, o, ho, hn, hd => by
  rw [List.map_cons, List.nodup_cons] at hn
  have e : stepJ o y = insP y o := by
   unfold stepJ
   rw [findIdx_none fun z hz => hd y (List.mem_cons_self ..) z hz]
  obtain ⟨h1, h2⟩ := joinJ_new (ys := ys) (insP_inc ho fun z hz => hd y (List.mem_cons_self ..) z hz) hn.2 (fun u hu z hz => by
   rcases insP_mem.1 hz with rfl | hz
   ·
    intro e
    exact hn.1 (List.mem_map.2 ⟨u, hu, e.symm⟩)
   ·
    exact hd u (List.mem_cons_of_mem _ hu) z hz)
  show Inc (joinJ (stepJ o y) ys) ∧ ∀ z, z ∈ joinJ (stepJ o y) ys ↔ _
  rw [e]
  refine ⟨h1, fun z => ?_⟩
  rw [h2, insP_mem, List.mem_cons]
  constructor
  ·
   rintro ((h | h) | h)
   ·
    exact .inr (.inl h)
   ·
    exact .inl h
   ·
    exact .inr (.inr h)
  ·
   rintro (h | h | h)
   ·
    exact .inl (.inr h)
   ·
    exact .inl (.inl h)
   ·
    exact .inr h
theorem dead_dots (l : List Node) : (l.map deadN).map (·.f0) = l.map (·.f0) := by
 rw [List.map_map]
 rfl
/-- What is deleted, one after the other, and at once. -/
theorem gone_is {l : List Node} (hs : storeOk l = true) (a n : Int) : joinJ [] ((cutV l a n).map deadN) = (l.filter fun x => decide (x.f0 ∈ (cutV l a n).map (·.f0))).map deadN := by
 have hi := store_inc hs
 obtain ⟨h1, h2⟩ := joinJ_new (ys := (cutV l a n).map deadN) (o := []) List.Pairwise.nil (by rw [dead_dots]; exact cut_nodup hs a n) (fun y _ z hz => by cases hz)
 have hsub : ∀ x ∈ cutV l a n, x ∈ l := fun x hx => (mem_vis hs ((cut_sub l a n).subset hx)).1
 refine inc_ext h1 ?_ fun z => ?_
 ·
  exact List.pairwise_map.2 ((hi.sublist List.filter_sublist).imp fun h => h)
 ·
  rw [h2, List.mem_map, List.mem_map]
  constructor
  ·
   rintro (h | ⟨x, hx, rfl⟩)
   ·
    cases h
   ·
    exact ⟨x, List.mem_filter.2 ⟨hsub x hx, decide_eq_true (List.mem_map.2 ⟨x, hx, rfl⟩)⟩, rfl⟩
  ·
   rintro ⟨x, hx, rfl⟩
   obtain ⟨hx1, hx2⟩ := List.mem_filter.1 hx
   obtain ⟨y, hy, e⟩ := List.mem_map.1 (of_decide_eq_true hx2)
   obtain ⟨i, hi1⟩ := List.getElem?_of_mem hx1
   obtain ⟨j, hj⟩ := List.getElem?_of_mem (hsub y hy)
   have := inc_unique hi hi1 hj e.symm
   subst this
   rw [hi1] at hj
   cases hj
   exact .inr ⟨x, hy, rfl⟩
theorem stain_from : ∀ (q k i : Nat) (l : List Node), l.length ≤ 1000000 → i + q = l.length → q < k → ∃ r, redpencilref14_Stain.l0 k l (i : Int) = some r := by
 intro q
 induction q with
 | zero =>
  intro k i l hl hi hk
  obtain ⟨k, rfl⟩ : ∃ m, k = m + 1 := ⟨k - 1, by omega⟩
  simp only [redpencilref14_Stain.l0]
  rw [if_neg (by omega)]
  exact ⟨_, rfl⟩
 | succ q ih =>
  intro k i l hl hi hk
  obtain ⟨k, rfl⟩ : ∃ m, k = m + 1 := ⟨k - 1, by omega⟩
  have hlt : i < l.length := by omega
  simp only [redpencilref14_Stain.l0]
  rw [if_pos (by omega), if_pos (by omega), Option.bind_some, wrap_succ hlt hl]
  exact ih k (i + 1) _ (by simp; omega) (by simp; omega) (by omega)
theorem stain_is (l : List Node) (hl : l.length ≤ 1000000) {k : Nat} (hk : l.length < k) : ∃ r, redpencilref14_Stain.f k l = some r := stain_from l.length k 0 l hl (by omega) hk
end Go.Proofs.YtmbndijbpgobeaaGreat.PWalk
end
section
namespace Go.Proofs.YtmbndijbpgobeaaGreat.PWalk
open Go.RowKit Go.Proofs.YtmbndijbpgobeaaGreatW.PrintWords Go.Proofs.YtmbndijbpgobeaaGreatW.PrintLast Go.Proofs.YtmbndijbpgobeaaGreatW.PrintMore
set_option linter.unusedVariables false
set_option linter.unusedSimpArgs false
open Go.Shelf
attribute [local go_sem] Oper.semAt_some
theorem storeOk_mk {l : List Node} (h1 : ∀ x ∈ l, nodeOk x = true) (h2 : Inc l) : storeOk l = true := by
 unfold storeOk
 rw [Bool.and_eq_true, List.all_eq_true]
 exact ⟨h1, incB_mk h2⟩
theorem store_nodes {l : List Node} (h : storeOk l = true) : ∀ x ∈ l, nodeOk x = true := by
 unfold storeOk at h
 rw [Bool.and_eq_true, List.all_eq_true] at h
 exact h.1
theorem dead_ok {x : Node} (h : nodeOk x = true) : nodeOk (deadN x) = true := by
 unfold nodeOk deadN at *
 have h := of_decide_eq_true h
 exact decide_eq_true ⟨h.1, h.2.1, h.2.2.1, h.2.2.2.1, h.2.2.2.2.1, .inl rfl⟩
theorem gone_store {l : List Node} (hs : storeOk l = true) (p : Node → Bool) : storeOk ((l.filter p).map deadN) = true := by
 refine storeOk_mk (fun z hz => ?_) (List.pairwise_map.2 (((store_inc hs).sublist List.filter_sublist).imp fun h => h))
 obtain ⟨x, hx, rfl⟩ := List.mem_map.1 hz
 exact dead_ok (store_nodes hs x (List.mem_filter.1 hx).1)
theorem left_cases {l : List Node} (hs : storeOk l = true) (a : Int) : leftE l a = ⟨0, 0⟩ ∨ ∃ x ∈ l, leftE l a = x.f0 := by
 unfold leftE
 by_cases h : a = 0
 ·
  rw [if_pos h]; exact .inl rfl
 ·
  rw [if_neg h]
  cases hv : (visOf l)[(a - 1).toNat]? with
  | none => exact .inl rfl
  | some x => exact .inr ⟨x, (mem_vis hs (List.mem_of_getElem? hv)).1, rfl⟩
theorem chain_inc (d p : Dot) (t : Int) (rs : List Int) : Inc (chainE d p t rs) := by
 unfold chainE
 refine List.pairwise_map.2 (List.pairwise_lt_range.imp fun {i j} h => ?_)
 unfold nodeE dotLt
 exact decide_eq_true (.inl (show d.f1 + (i : Int) < d.f1 + (j : Int) by omega))
theorem chain_store {l : List Node} {d : Dot} {a : Int} {rs : List Int} (hs : storeOk l = true) (hd : dotOk d = true) (hr : ∀ r ∈ rs, runeOk r = true) (h1 : d.f1 + (rs.length : Int) ≤ 4294967296) (h2 : lastOf l + (rs.length : Int) ≤ 4611686018427387904) (hb : busyE l d rs.length = false) :
  storeOk (chainE d (leftE l a) (lastOf l) rs) = true := by
 refine storeOk_mk (fun z hz => ?_) (chain_inc _ _ _ _)
 obtain ⟨i, hi, rfl⟩ := List.mem_map.1 hz
 have hi := List.mem_range.1 hi
 have hla := last_le hs
 have hdo := of_decide_eq_true hd
 have ok : ∀ j : Nat, j < rs.length → dotOk ⟨d.f0, d.f1 + (j : Int)⟩ = true := fun j hj => decide_eq_true ⟨hdo.1, hdo.2.1, by show 1 ≤ d.f1 + (j : Int); omega, by show d.f1 + (j : Int) ≤ 4294967295; omega⟩
 have hrn : runeOk (rs.getD i 0) = true := by
  rw [List.getD_eq_getElem?_getD, List.getElem?_eq_getElem hi]
  exact hr _ (List.getElem_mem hi)
 unfold nodeOk nodeE
 refine decide_eq_true ⟨ok i hi, ?_, ?_, by show 1 ≤ lastOf l + 1 + (i : Int); omega, by show lastOf l + 1 + (i : Int) ≤ 4611686018427387904; omega, .inr hrn⟩
 ·
  cases i with
  | zero =>
   rcases left_cases hs a with h | ⟨x, hx, h⟩
   ·
    exact .inl (by unfold parE; rw [h]; rfl)
   ·
    exact .inr (by unfold parE; rw [h]; exact (of_decide_eq_true (store_nodes hs x hx)).1)
  | succ j => exact .inr (ok j (by omega))
 ·
  cases i with
  | zero =>
   intro e
   rcases left_cases hs a with h | ⟨x, hx, h⟩
   ·
    have e2 : leftE l a = ⟨d.f0, d.f1 + ((0 : Nat) : Int)⟩ := e
    rw [h] at e2
    have e3 := congrArg (fun q : Dot => q.f1) e2
    simp only at e3
    omega
   ·
    have e2 : leftE l a = ⟨d.f0, d.f1 + ((0 : Nat) : Int)⟩ := e
    rw [h] at e2
    have := busy_yes (l := l) (d := d) hi (List.mem_map.2 ⟨x, hx, e2⟩)
    rw [hb] at this
    cases this
  | succ j =>
   intro e
   have e2 : (⟨d.f0, d.f1 + (j : Int)⟩ : Dot) = ⟨d.f0, d.f1 + ((j + 1 : Nat) : Int)⟩ := e
   have e3 := congrArg (fun q : Dot => q.f1) e2
   simp only at e3
   omega
theorem chain_agree {l g : List Node} {d p : Dot} {t : Int} {rs : List Int} (hg : ∀ x ∈ g, x.f0 ∈ l.map (·.f0)) (hb : busyE l d rs.length = false) : agreeL g (chainE d p t rs) = true := by
 unfold agreeL
 rw [List.all_eq_true]
 intro x hx
 rw [findIdx_none fun z hz e => ?_]
 obtain ⟨i, hi, rfl⟩ := List.mem_map.1 hz
 have := busy_yes (l := l) (d := d) (List.mem_range.1 hi) (by rw [show (⟨d.f0, d.f1 + (i : Int)⟩ : Dot) = x.f0 from e]; exact hg x hx)
 rw [hb] at this
 cases this
theorem repl_is {l : List Node} {d : Dot} {a n : Int} {rs : List Int} (hrs : rs.length ≤ 20000) : replJ l d a n rs = replR l d a n rs := by
 unfold replJ replR
 by_cases he : errE l d a n rs = 0
 ·
  rw [if_neg (show ¬ errE l d a n rs ≠ 0 from fun h => h he), if_neg (show ¬ errE l d a n rs ≠ 0 from fun h => h he)]
  unfold chainR
  cases hb : busyE l d rs.length with
  | true => rw [if_pos rfl, if_pos rfl, if_pos (by decide)]
  | false =>
   simp only [Bool.false_eq_true, if_false, ne_eq, not_true_eq_false]
   obtain ⟨h1, h2, h3, h4, h5, h6, h7, h8⟩ := err_zero hrs he
   have hs := well_store h1
   rw [del_some h3 h4, gone_is hs]
   obtain ⟨e1, e2, _⟩ := join_store (gone_store hs fun x => decide (x.f0 ∈ (cutV l a n).map (·.f0))) (chain_store (a := a) hs h2 h6 h7 h8 hb) (chain_agree (l := l) (fun x hx => by
    obtain ⟨y, hy, rfl⟩ := List.mem_map.1 hx
    exact List.mem_map.2 ⟨y, (List.mem_filter.1 hy).1, rfl⟩) hb)
   unfold joinR
   rw [if_pos ⟨gone_store hs _, chain_store hs h2 h6 h7 h8 hb⟩, e1]
 ·
  rw [if_pos he, if_pos he]
end Go.Proofs.YtmbndijbpgobeaaGreat.PWalk
end
section
namespace Go.Proofs.YtmbndijbpgobeaaGreat.PWalk
open Go.RowKit Go.Proofs.YtmbndijbpgobeaaGreatW.PrintWords Go.Proofs.YtmbndijbpgobeaaGreatW.PrintLast Go.Proofs.YtmbndijbpgobeaaGreatW.PrintMore
attribute [local go_sem] max2_int max_two
set_option linter.unusedVariables false
set_option linter.unusedSimpArgs false
def redpencillaw15_kept.f (k : Nat) (l0 : List (S53)) (l1 : List (S53)) (l2 : List Int) (l3 : List Int) : Option (Bool) := (redpencilref14_Same.f k l0 l1).bind fun t277 => (if t277 = true then ((redpencilref15_Same.f k l2 l3).bind fun t278 => (some t278)) else (some false))
set_option maxHeartbeats 8000000 in
set_option maxRecDepth 100000 in
theorem redpencillaw15_kept.calls (k : Nat) (A0 : Option Addr) (c0 : Nat) (l0 : List (S53)) (A1 : Option Addr) (c1 : Nat) (l1 : List (S53)) (A2 : Option Addr) (c2 : Nat) (l2 : List Int) (A3 : Option Addr) (c3 : Nat) (l3 : List Int) (r : Bool) (w : World) (hr0 : Kd.C k53 w A0 l0.length l0) (hc0 : l0.length ≤ c0) (hr1 : Kd.C k53 w A1 l1.length l1) (hc1 : l1.length ≤ c1) (hr2 : Kd.C (Kd.int .i32) w A2 l2.length l2) (hc2 : l2.length ≤ c2) (hr3 : Kd.C (Kd.int .i32) w A3 l3.length l3) (hc3 : l3.length ≤ c3) (h : redpencillaw15_kept.f k l0 l1 l2 l3 = some r) :
  Calls Tryz.prog 16 #[.slice A0 l0.length c0, .slice A1 l1.length c1, .slice A2 l2.length c2, .slice A3 l3.length c3] w fun e w' => e = .returned (.bool r) ∧ Drawn0 w w' := by
 have HR0 := Aside0.mk hr0
 have HC0 := Aside0.mk hc0
 clear hr0 hc0
 have HR1 := Aside0.mk hr1
 have HC1 := Aside0.mk hc1
 clear hr1 hc1
 have HR2 := Aside0.mk hr2
 have HC2 := Aside0.mk hc2
 clear hr2 hc2
 have HR3 := Aside0.mk hr3
 have HC3 := Aside0.mk hc3
 clear hr3 hc3
 have H : ((redpencilref14_Same.f k l0 l1).bind fun t277 => (if t277 = true then ((redpencilref15_Same.f k l2 l3).bind fun t278 => (some t278)) else (some false))) = some r := h
 clear h
 replace H := Option.bind_eq_some_iff.mp H
 obtain ⟨t277, A50, H⟩ := H
 replace H : (if t277 = true then ((redpencilref15_Same.f k l2 l3).bind fun t278 => (some t278)) else (some false)) = some r := H
 have A5 := Aside0.mk A50
 clear A50
 by_cases c6 : t277 = true
 ·
  subst c6
  have H1 : ((redpencilref15_Same.f k l2 l3).bind fun t278 => (some t278)) = some r := by rw [if_pos rfl] at H; exact H
  clear H
  have H := H1
  clear H1
  replace H := Option.bind_eq_some_iff.mp H
  obtain ⟨t278, A70, H⟩ := H
  replace H : (some t278) = some r := H
  have A7 := Aside0.mk A70
  clear A70
  obtain rfl := Option.some.inj H
  go_enter Tryz.func16, Tryz.ntmps16
  go_wp2_with (first | ((with_reducible refine gate_callee (f := 20) rfl ?_); refine goesL_ (some 11) rfl rfl Tryz.func20 (by kernel_rfl) rfl #[.slice A0 l0.length c0, .slice A1 l1.length c1] rfl (by (try simp only [List.map_toArray, List.map_cons, List.map_nil]); first | done | rfl | (simp only [List.length_drop, List.length_take]; rfl)) ?_; (with_reducible refine (redpencilref14_Same.calls k _ _ l0 _ _ l1 true _ ?side1 ?side2 ?side3 ?side4 A5.out).mono ?_); (case side1 => repeat (first | exact HR0.out | (with_reducible refine Kd.C_alloc ?_ _) | (with_reducible refine Kd.C_drewN ?_ _) | (with_reducible refine Kd.C_drew ?_))); (case side2 => exact HC0.out); (case side3 => repeat (first | exact HR1.out | (with_reducible refine Kd.C_alloc ?_ _) | (with_reducible refine Kd.C_drewN ?_ _) | (with_reducible refine Kd.C_drew ?_))); (case side4 => exact HC1.out); rintro e w' ⟨rfl, ⟨nd, rfl⟩⟩; refine ⟨_, rfl, ?_⟩) | (go_at_call 29; (with_reducible refine (redpencilref15_Same.calls k _ _ l2 _ _ l3 t278 _ ?side1 ?side2 ?side3 ?side4 A7.out).mono ?_); (case side1 => repeat (first | exact HR2.out | (with_reducible refine Kd.C_alloc ?_ _) | (with_reducible refine Kd.C_drewN ?_ _) | (with_reducible refine Kd.C_drew ?_))); (case side2 => exact HC2.out); (case side3 => repeat (first | exact HR3.out | (with_reducible refine Kd.C_alloc ?_ _) | (with_reducible refine Kd.C_drewN ?_ _) | (with_reducible refine Kd.C_drew ?_))); (case side4 => exact HC3.out); rintro e w' ⟨rfl, ⟨nd, rfl⟩⟩))
  go_ret
  exact ⟨by first | rfl | (simp; done) | (simp [*]; done), by repeat (first | exact Drawn0.refl _ | apply Drawn0.step)⟩
 ·
  replace c6 := Bool.eq_false_iff.mpr c6
  subst c6
  have H1 : (some false) = some r := by rw [if_neg (show ¬ (false = true) by decide)] at H; exact H
  clear H
  have H := H1
  clear H1
  obtain rfl := Option.some.inj H
  go_enter Tryz.func16, Tryz.ntmps16
  go_wp2_with (first | ((with_reducible refine gate_callee (f := 20) rfl ?_); refine goesL_ (some 11) rfl rfl Tryz.func20 (by kernel_rfl) rfl #[.slice A0 l0.length c0, .slice A1 l1.length c1] rfl (by (try simp only [List.map_toArray, List.map_cons, List.map_nil]); first | done | rfl | (simp only [List.length_drop, List.length_take]; rfl)) ?_; (with_reducible refine (redpencilref14_Same.calls k _ _ l0 _ _ l1 false _ ?side1 ?side2 ?side3 ?side4 A5.out).mono ?_); (case side1 => repeat (first | exact HR0.out | (with_reducible refine Kd.C_alloc ?_ _) | (with_reducible refine Kd.C_drewN ?_ _) | (with_reducible refine Kd.C_drew ?_))); (case side2 => exact HC0.out); (case side3 => repeat (first | exact HR1.out | (with_reducible refine Kd.C_alloc ?_ _) | (with_reducible refine Kd.C_drewN ?_ _) | (with_reducible refine Kd.C_drew ?_))); (case side4 => exact HC1.out); rintro e w' ⟨rfl, ⟨nd, rfl⟩⟩; refine ⟨_, rfl, ?_⟩))
  go_ret
  exact ⟨by first | rfl | (simp; done) | (simp [*]; done), by repeat (first | exact Drawn0.refl _ | apply Drawn0.step)⟩
end Go.Proofs.YtmbndijbpgobeaaGreat.PWalk
end
section
namespace Go.Proofs.YtmbndijbpgobeaaGreat.PWalk
open Go.RowKit Go.Proofs.YtmbndijbpgobeaaGreatW.PrintWords Go.Proofs.YtmbndijbpgobeaaGreatW.PrintLast Go.Proofs.YtmbndijbpgobeaaGreatW.PrintMore
attribute [local go_sem] max2_int max_two
set_option linter.unusedVariables false
set_option linter.unusedSimpArgs false
def edit_Apply.f (k : Nat) (l0 : List (S53)) (l1 : List (S53)) : Option ((List (S53)) × List Int × Int) := (join_Join.f l0 l1).bind fun bt225 => (if bt225.2 = 0 then ((index_Runes.f k bt225.1).bind fun bt229 => (if bt229.2 = 0 then (some (bt225.1, bt229.1, 0)) else (some (([] : List (S53)), ([] : List Int), bt229.2)))) else (some (([] : List (S53)), ([] : List Int), bt225.2)))
set_option maxHeartbeats 8000000 in
set_option maxRecDepth 100000 in
theorem edit_Apply.calls (k : Nat) (A0 : Option Addr) (c0 : Nat) (l0 : List (S53)) (A1 : Option Addr) (c1 : Nat) (l1 : List (S53)) (r1 : List (S53)) (r2 : List Int) (r3 : Int) (w : World) (hr0 : Kd.C k53 w A0 l0.length l0) (hc0 : l0.length ≤ c0) (hr1 : Kd.C k53 w A1 l1.length l1) (hc1 : l1.length ≤ c1) (h : edit_Apply.f k l0 l1 = some (r1, r2, r3)) :
  Calls Tryz.prog 25 #[.slice A0 l0.length c0, .slice A1 l1.length c1] w fun e w' => ∃ v0_ v1_ : Value, e = .returned (.tuple #[v0_, v1_, .int .i64 r3]) ∧ Kd.R k53 53 w' w.heap.size (fun _ => True) v0_ r1 ∧ Kd.R (Kd.int .i32) 21 w' w.heap.size (fun _ => True) v1_ r2 ∧ Below w.heap.size w w' := by
 have HR0 := Aside0.mk hr0
 have HC0 := Aside0.mk hc0
 clear hr0 hc0
 have HR1 := Aside0.mk hr1
 have HC1 := Aside0.mk hc1
 clear hr1 hc1
 have HB := Aside0.mk (Below.refl w.heap.size w)
 have H : ((join_Join.f l0 l1).bind fun bt225 => (if bt225.2 = 0 then ((index_Runes.f k bt225.1).bind fun bt229 => (if bt229.2 = 0 then (some (bt225.1, bt229.1, 0)) else (some (([] : List (S53)), ([] : List Int), bt229.2)))) else (some (([] : List (S53)), ([] : List Int), bt225.2)))) = some (r1, r2, r3) := h
 clear h
 replace H := Option.bind_eq_some_iff.mp H
 obtain ⟨⟨t225, t226⟩, A30, H⟩ := H
 replace H : (if t226 = 0 then ((index_Runes.f k t225).bind fun bt229 => (if bt229.2 = 0 then (some (t225, bt229.1, 0)) else (some (([] : List (S53)), ([] : List Int), bt229.2)))) else (some (([] : List (S53)), ([] : List Int), t226))) = some (r1, r2, r3) := H
 have A3 := Aside0.mk A30
 clear A30
 by_cases c4 : t226 = 0
 ·
  rw [if_pos c4] at H
  have c4b0 : (t226 == 0) = true := beq_iff_eq.mpr c4
  have c4b1 : (t226 != 0) = false := bne_eq_false_iff_eq.mpr c4
  clear c4
  replace H := Option.bind_eq_some_iff.mp H
  obtain ⟨⟨t229, t230⟩, A50, H⟩ := H
  replace H : (if t230 = 0 then (some (t225, t229, 0)) else (some (([] : List (S53)), ([] : List Int), t230))) = some (r1, r2, r3) := H
  have A5 := Aside0.mk A50
  clear A50
  by_cases c6 : t230 = 0
  ·
   rw [if_pos c6] at H
   have c6b0 : (t230 == 0) = true := beq_iff_eq.mpr c6
   have c6b1 : (t230 != 0) = false := bne_eq_false_iff_eq.mpr c6
   clear c6
   simp only [Option.some.injEq, Prod.mk.injEq] at H
   obtain ⟨rfl, rfl, rfl⟩ := H
   go_enter Tryz.func25, Tryz.ntmps25
   go_wp2_with (first | ((with_reducible refine gate_callee (f := 54) rfl ?_); refine goesL_ (some 13) rfl rfl Tryz.func54 (by kernel_rfl) rfl #[.slice A0 l0.length c0, .slice A1 l1.length c1] rfl (by (try simp only [List.map_toArray, List.map_cons, List.map_nil]); first | done | rfl | (simp only [List.length_drop, List.length_take]; rfl)) ?_; (with_reducible refine (join_Join.calls _ _ l0 _ _ l1 t225 t226 _ ?side1 ?side2 ?side3 ?side4 A3.out).mono ?_); (case side1 => repeat (first | exact HR0.out | (with_reducible refine Kd.C_alloc ?_ _) | (with_reducible refine Kd.C_drewN ?_ _) | (with_reducible refine Kd.C_drew ?_))); (case side2 => exact HC0.out); (case side3 => repeat (first | exact HR1.out | (with_reducible refine Kd.C_alloc ?_ _) | (with_reducible refine Kd.C_drewN ?_ _) | (with_reducible refine Kd.C_drew ?_))); (case side4 => exact HC1.out); rintro e w7 ⟨v227, rfl, ho0, hb⟩; refine ⟨_, rfl, ?_⟩; have n0_ := Aside0.mk (Kd.R_lower ho0 (below_size (by repeat (first | (with_reducible first | exact HB.out | apply below_alloc | apply pw_below_drewN | apply below_drew1) | exact HB.out)))); have n1_ := Aside0.mk (below_step (by repeat (first | (with_reducible first | exact HB.out | apply below_alloc | apply pw_below_drewN | apply below_drew1) | exact HB.out)) hb); clear HB; have HO228 := n0_; have HB := n1_; clear n0_ n1_; (try clear hb); (try clear hb2); (try clear hk); (try clear hi); (try clear ho0); obtain ⟨Ao8, co8, eo8⟩ := Kd.R_slice HO228.out; subst eo8) | ((with_reducible refine gate_callee (f := 56) rfl ?_); refine goesL_ (some 21) rfl rfl Tryz.func56 (by kernel_rfl) rfl #[.slice Ao8 t225.length co8] rfl (by (try simp only [List.map_toArray, List.map_cons, List.map_nil]); first | done | rfl | (simp only [List.length_drop, List.length_take]; rfl)) ?_; (with_reducible refine (index_Runes.calls k _ _ t225 t229 t230 _ ?side1 ?side2 A5.out).mono ?_); (case side1 => repeat (first | exact (Kd.R_reads' HO228.out).2.2 | (with_reducible refine Kd.C_alloc ?_ _) | (with_reducible refine Kd.C_drewN ?_ _) | (with_reducible refine Kd.C_drew ?_))); (case side2 => exact (Kd.R_reads' HO228.out).2.1); rintro e w9 ⟨v231, rfl, ho0, hb⟩; refine ⟨_, rfl, ?_⟩; have n0_ := Aside0.mk (Kd.R_below (by (with_reducible repeat (first | apply Kd.R_alloc | apply Kd.R_drewN | apply Kd.R_drew)); exact HO228.out) hb); have n1_ := Aside0.mk (Kd.R_lower ho0 (below_size (by repeat (first | (with_reducible first | exact HB.out | apply below_alloc | apply pw_below_drewN | apply below_drew1) | exact HB.out)))); have n2_ := Aside0.mk (below_step (by repeat (first | (with_reducible first | exact HB.out | apply below_alloc | apply pw_below_drewN | apply below_drew1) | exact HB.out)) hb); clear HO228; clear HB; have HO228 := n0_; have HO232 := n1_; have HB := n2_; clear n0_ n1_ n2_; (try clear hb); (try clear hb2); (try clear hk); (try clear hi); (try clear ho0)))
   go_ret3
   exact ⟨_, _, by first | rfl | (simp [errW_none, errW_some] <;> rfl) | (simp [*, errW_none, errW_some] <;> rfl), by (with_reducible repeat (first | apply Kd.R_alloc | apply Kd.R_drewN | apply Kd.R_drew)); exact HO228.out, by (with_reducible repeat (first | apply Kd.R_alloc | apply Kd.R_drewN | apply Kd.R_drew)); exact HO232.out, by repeat (first | (with_reducible first | exact HB.out | apply below_alloc | apply pw_below_drewN | apply below_drew1) | exact HB.out)⟩
  ·
   rw [if_neg c6] at H
   have c6b0 : (t230 == 0) = false := beq_eq_false_iff_ne.mpr c6
   have c6b1 : (t230 != 0) = true := bne_iff_ne.mpr c6
   simp only [Option.some.injEq, Prod.mk.injEq] at H
   obtain ⟨rfl, rfl, rfl⟩ := H
   go_enter Tryz.func25, Tryz.ntmps25
   go_wp2_with (first | ((with_reducible refine gate_callee (f := 54) rfl ?_); refine goesL_ (some 13) rfl rfl Tryz.func54 (by kernel_rfl) rfl #[.slice A0 l0.length c0, .slice A1 l1.length c1] rfl (by (try simp only [List.map_toArray, List.map_cons, List.map_nil]); first | done | rfl | (simp only [List.length_drop, List.length_take]; rfl)) ?_; (with_reducible refine (join_Join.calls _ _ l0 _ _ l1 t225 t226 _ ?side1 ?side2 ?side3 ?side4 A3.out).mono ?_); (case side1 => repeat (first | exact HR0.out | (with_reducible refine Kd.C_alloc ?_ _) | (with_reducible refine Kd.C_drewN ?_ _) | (with_reducible refine Kd.C_drew ?_))); (case side2 => exact HC0.out); (case side3 => repeat (first | exact HR1.out | (with_reducible refine Kd.C_alloc ?_ _) | (with_reducible refine Kd.C_drewN ?_ _) | (with_reducible refine Kd.C_drew ?_))); (case side4 => exact HC1.out); rintro e w10 ⟨v227, rfl, ho0, hb⟩; refine ⟨_, rfl, ?_⟩; have n0_ := Aside0.mk (Kd.R_lower ho0 (below_size (by repeat (first | (with_reducible first | exact HB.out | apply below_alloc | apply pw_below_drewN | apply below_drew1) | exact HB.out)))); have n1_ := Aside0.mk (below_step (by repeat (first | (with_reducible first | exact HB.out | apply below_alloc | apply pw_below_drewN | apply below_drew1) | exact HB.out)) hb); clear HB; have HO228 := n0_; have HB := n1_; clear n0_ n1_; (try clear hb); (try clear hb2); (try clear hk); (try clear hi); (try clear ho0); obtain ⟨Ao11, co11, eo11⟩ := Kd.R_slice HO228.out; subst eo11) | ((with_reducible refine gate_callee (f := 56) rfl ?_); refine goesL_ (some 21) rfl rfl Tryz.func56 (by kernel_rfl) rfl #[.slice Ao11 t225.length co11] rfl (by (try simp only [List.map_toArray, List.map_cons, List.map_nil]); first | done | rfl | (simp only [List.length_drop, List.length_take]; rfl)) ?_; (with_reducible refine (index_Runes.calls k _ _ t225 t229 t230 _ ?side1 ?side2 A5.out).mono ?_); (case side1 => repeat (first | exact (Kd.R_reads' HO228.out).2.2 | (with_reducible refine Kd.C_alloc ?_ _) | (with_reducible refine Kd.C_drewN ?_ _) | (with_reducible refine Kd.C_drew ?_))); (case side2 => exact (Kd.R_reads' HO228.out).2.1); rintro e w12 ⟨v231, rfl, ho0, hb⟩; refine ⟨_, rfl, ?_⟩; have n0_ := Aside0.mk (Kd.R_below (by (with_reducible repeat (first | apply Kd.R_alloc | apply Kd.R_drewN | apply Kd.R_drew)); exact HO228.out) hb); have n1_ := Aside0.mk (Kd.R_lower ho0 (below_size (by repeat (first | (with_reducible first | exact HB.out | apply below_alloc | apply pw_below_drewN | apply below_drew1) | exact HB.out)))); have n2_ := Aside0.mk (below_step (by repeat (first | (with_reducible first | exact HB.out | apply below_alloc | apply pw_below_drewN | apply below_drew1) | exact HB.out)) hb); clear HO228; clear HB; have HO228 := n0_; have HO232 := n1_; have HB := n2_; clear n0_ n1_ n2_; (try clear hb); (try clear hb2); (try clear hk); (try clear hi); (try clear ho0)))
   go_ret3
   exact ⟨_, _, by first | rfl | (simp [errW_none, errW_some] <;> rfl) | (simp [*, errW_none, errW_some] <;> rfl), by first | exact Kd.R_nil _ _ _ _ _ | exact Kd.N_nil _ _ _ _ _ | exact Kd.V_nil _ _ _ _ _ | exact Kd.Q_nil _ _ _ _ _ | exact Kd.S_nil _ _ _ _ _, by first | exact Kd.R_nil _ _ _ _ _ | exact Kd.N_nil _ _ _ _ _ | exact Kd.V_nil _ _ _ _ _ | exact Kd.Q_nil _ _ _ _ _ | exact Kd.S_nil _ _ _ _ _, by repeat (first | (with_reducible first | exact HB.out | apply below_alloc | apply pw_below_drewN | apply below_drew1) | exact HB.out)⟩
 ·
  rw [if_neg c4] at H
  have c4b0 : (t226 == 0) = false := beq_eq_false_iff_ne.mpr c4
  have c4b1 : (t226 != 0) = true := bne_iff_ne.mpr c4
  simp only [Option.some.injEq, Prod.mk.injEq] at H
  obtain ⟨rfl, rfl, rfl⟩ := H
  go_enter Tryz.func25, Tryz.ntmps25
  go_wp2_with (first | ((with_reducible refine gate_callee (f := 54) rfl ?_); refine goesL_ (some 13) rfl rfl Tryz.func54 (by kernel_rfl) rfl #[.slice A0 l0.length c0, .slice A1 l1.length c1] rfl (by (try simp only [List.map_toArray, List.map_cons, List.map_nil]); first | done | rfl | (simp only [List.length_drop, List.length_take]; rfl)) ?_; (with_reducible refine (join_Join.calls _ _ l0 _ _ l1 t225 t226 _ ?side1 ?side2 ?side3 ?side4 A3.out).mono ?_); (case side1 => repeat (first | exact HR0.out | (with_reducible refine Kd.C_alloc ?_ _) | (with_reducible refine Kd.C_drewN ?_ _) | (with_reducible refine Kd.C_drew ?_))); (case side2 => exact HC0.out); (case side3 => repeat (first | exact HR1.out | (with_reducible refine Kd.C_alloc ?_ _) | (with_reducible refine Kd.C_drewN ?_ _) | (with_reducible refine Kd.C_drew ?_))); (case side4 => exact HC1.out); rintro e w13 ⟨v227, rfl, ho0, hb⟩; refine ⟨_, rfl, ?_⟩; have n0_ := Aside0.mk (Kd.R_lower ho0 (below_size (by repeat (first | (with_reducible first | exact HB.out | apply below_alloc | apply pw_below_drewN | apply below_drew1) | exact HB.out)))); have n1_ := Aside0.mk (below_step (by repeat (first | (with_reducible first | exact HB.out | apply below_alloc | apply pw_below_drewN | apply below_drew1) | exact HB.out)) hb); clear HB; have HO228 := n0_; have HB := n1_; clear n0_ n1_; (try clear hb); (try clear hb2); (try clear hk); (try clear hi); (try clear ho0)))
  go_ret3
  exact ⟨_, _, by first | rfl | (simp [errW_none, errW_some] <;> rfl) | (simp [*, errW_none, errW_some] <;> rfl), by first | exact Kd.R_nil _ _ _ _ _ | exact Kd.N_nil _ _ _ _ _ | exact Kd.V_nil _ _ _ _ _ | exact Kd.Q_nil _ _ _ _ _ | exact Kd.S_nil _ _ _ _ _, by first | exact Kd.R_nil _ _ _ _ _ | exact Kd.N_nil _ _ _ _ _ | exact Kd.V_nil _ _ _ _ _ | exact Kd.Q_nil _ _ _ _ _ | exact Kd.S_nil _ _ _ _ _, by repeat (first | (with_reducible first | exact HB.out | apply below_alloc | apply pw_below_drewN | apply below_drew1) | exact HB.out)⟩
end Go.Proofs.YtmbndijbpgobeaaGreat.PWalk
end
section
namespace Go.Proofs.YtmbndijbpgobeaaGreat.PWalk
open Go.RowKit Go.Proofs.YtmbndijbpgobeaaGreatW.PrintWords Go.Proofs.YtmbndijbpgobeaaGreatW.PrintLast Go.Proofs.YtmbndijbpgobeaaGreatW.PrintMore
set_option linter.unusedVariables false
set_option linter.unusedSimpArgs false
open Go.Shelf
attribute [local go_sem] Oper.semAt_some
def xA : Node := ⟨⟨1, 1⟩, ⟨0, 0⟩, 1, 97⟩
def xB : Node := ⟨⟨1, 2⟩, ⟨1, 1⟩, 2, 0⟩
def xC : Node := ⟨⟨1, 3⟩, ⟨1, 2⟩, 3, 99⟩
def xG : Node := ⟨⟨1, 1⟩, ⟨0, 0⟩, 1, 0⟩
def xL : Node := ⟨⟨1, 3⟩, ⟨1, 2⟩, 3, 0⟩
def xX : Node := ⟨⟨2, 1⟩, ⟨1, 1⟩, 4, 120⟩
def xY : Node := ⟨⟨2, 2⟩, ⟨2, 1⟩, 5, 121⟩
def xZ : Node := ⟨⟨2, 1⟩, ⟨0, 0⟩, 4, 122⟩
theorem kn15_0 : redpencillaw15_inserts.f 60 [xA, xB, xC] 2 1 1 [120, 121] [xX, xY] 0 = some true := by kernel_rfl
theorem kn15_1 : edit_Apply.f 60 [xA, xB, xC] [xX, xY] = some ([xA, xX, xB, xY, xC], [97, 120, 121, 99], 0) := by kernel_rfl
theorem kn15_2 : redpencillaw15_deletes.f 60 [xA, xB, xC] 1 1 [xL] 0 = some true := by kernel_rfl
theorem kn15_3 : redpencillaw15_replaces.f 60 [xA, xB, xC] 2 1 0 2 [122] [xG, xZ, xL] 0 = some true := by kernel_rfl
theorem kn15_4 : edit_Apply.f 60 [xA, xB, xC] [xG, xZ, xL] = some ([xG, xZ, xB, xL], [122], 0) := by kernel_rfl
theorem kn15_5 : redpencillaw15_inserts.f 60 [xA, xB, xC] 2 1 3 [120] [] 3 = some true := by kernel_rfl
theorem kn15_6 : redpencillaw15_inserts.f 60 [xA, xB, xC] 1 1 0 [120] [] 11 = some true := by kernel_rfl
theorem kn15_7 : redpencillaw15_inserts.f 60 [xA, xB, xC] 2 4294967295 0 [120, 121] [] 14 = some true := by kernel_rfl
theorem kn15_8 : redpencillaw15_inserts.f 60 [xA, xB, xC] 2 1 0 [0] [] 13 = some true := by kernel_rfl
theorem kn15_9 : redpencillaw15_deletes.f 60 [xA, xB, xC] 0 3 [] 3 = some true := by kernel_rfl
theorem kn15_10 : edit_Latest.f 60 [xA, xB, xC] = some 3 := by kernel_rfl
end Go.Proofs.YtmbndijbpgobeaaGreat.PWalk
end
section
namespace Go.Proofs.YtmbndijbpgobeaaGreat.PWalk
open Go.RowKit Go.Proofs.YtmbndijbpgobeaaGreatW.PrintWords Go.Proofs.YtmbndijbpgobeaaGreatW.PrintLast Go.Proofs.YtmbndijbpgobeaaGreatW.PrintMore
set_option linter.unusedVariables false
set_option linter.unusedSimpArgs false
open Go.Shelf
attribute [local go_sem] Oper.semAt_some
theorem run_runes {W : World} {A0 : Option Addr} {c0 : Nat} {l0 : List Int} (hC : Kd.C (Kd.int .i32) W A0 l0.length l0) : (convert 26 9 (.slice A0 l0.length c0)).run Tryz.prog W = .ok (.string (runesBytes l0)) W := by
 by_cases h0 : 0 < l0.length
 ·
  obtain ⟨x, hx⟩ : ∃ x, l0[0]? = some x := ⟨_, List.getElem?_eq_getElem h0⟩
  obtain ⟨ad, rfl, _⟩ := rune_at hC (Below.refl _ W) 0 x hx
  have := run_convert_runes (P := Tryz.prog) W 26 9 21 ad l0.length c0 l0 (Nat.le_refl _) Tryz.underlying26 Tryz.underlying21 Tryz.underlying9 (fun j hj => by
   obtain ⟨ad2, e2, hc⟩ := rune_at hC (Below.refl _ W) j l0[j] (List.getElem?_eq_getElem hj)
   cases e2
   rw [hc]; simp [List.getD, hj])
  rw [List.take_length] at this
  exact this
 ·
  obtain rfl : l0 = [] := List.eq_nil_of_length_eq_zero (by omega)
  cases A0 with
  | none => exact run_convert_runes_nil (P := Tryz.prog) W 26 9 21 _ _ Tryz.underlying26 Tryz.underlying21 Tryz.underlying9
  | some ad => exact run_convert_runes (P := Tryz.prog) W 26 9 21 ad 0 c0 [] (Nat.le_refl _) Tryz.underlying26 Tryz.underlying21 Tryz.underlying9 (fun j hj => absurd hj (Nat.not_lt_zero _))
theorem texts_call (k : Nat) (A0 : Option Addr) (c0 : Nat) (l0 : List Node) (A1 : Option Addr) (c1 : Nat) (l1 : List Node) (want : ByteArray) (x : List Node) (rs : List Int) (w : World) (hr0 : Kd.C k53 w A0 l0.length l0) (hc0 : l0.length ≤ c0) (hr1 : Kd.C k53 w A1 l1.length l1) (hc1 : l1.length ≤ c1) (h : edit_Apply.f k l0 l1 = some (x, rs, 0)) (hw : runesBytes rs = want) :
  Calls Tryz.prog 36 #[.slice A0 l0.length c0, .slice A1 l1.length c1, .string want] w fun e w' => e = .returned (.bool true) ∧ Below w.heap.size w w' := by
 have HA := Aside0.mk (edit_Apply.calls k A0 c0 l0 A1 c1 l1 x rs 0 w hr0 hc0 hr1 hc1 h)
 have HW := Aside0.mk hw
 clear hr0 hc0 hr1 hc1 h hw
 go_enter Tryz.func36, Tryz.ntmps36
 go_wp2_with fail
 refine HA.out.mono ?_
 rintro e V ⟨v0, v1, rfl, hr0, hr1, hb⟩
 obtain ⟨A2, c2, rfl⟩ := Kd.R_slice hr1
 have hcv := run_runes (c0 := c2) (Kd.R_reads' hr1).2.2
 rw [HW.out] at hcv
 have HB := Aside0.mk hb
 clear hr0 hr1 hb HA
 go_wp2_with fail
 go_ret
 exact ⟨rfl, HB.out⟩
theorem grown_cell {V W : World} {g : Nat} (h : V.grownBy W (some g)) (j : Nat) (u : Value) : V.grownBy (W.setCell ⟨g, j, none⟩ u) (some g) :=
 ⟨h.os, h.tape, h.output, by rw [World.size_setCell]; exact h.size, fun k hk hne => (Below.heap_setCell W _ u k (fun e => hne (by rw [e]))).trans (h.block k hk hne)⟩
theorem nilNs {W : World} : Kd.C k53 W none 0 ([] : List Node) := ⟨rfl, by decide, fun h => absurd h (by decide)⟩
/-- What lies ready for the calls of known. -/
structure K15 (w : World) (gS gX gZ g6 : Nat) (V : World) : Prop where
 below : Below w.heap.size w V
 s : Kd.C k53 V (some ⟨gS, 0, none⟩) 3 [xA, xB, xC]
 x : Kd.C k53 V (some ⟨gX, 0, none⟩) 2 [xX, xY]
 z : Kd.C k53 V (some ⟨gZ, 0, none⟩) 3 [xG, xZ, xL]
 also : V.heap[g6]? = some (boxN xL)
theorem K15.more {w : World} {gS gX gZ g6 : Nat} {V V' : World} (h : K15 w gS gX gZ g6 V) (hb : Below V.heap.size V V') : K15 w gS gX gZ g6 V' := ⟨below_more h.below hb, Kd.C_below h.s hb, Kd.C_below h.x hb, Kd.C_below h.z hb, blk_keep h.also hb⟩
/-- Two copies come up. -/
structure K5 (W0 : World) (l2 l3 l4 l5 : Bool) (g5 g6 : Nat) (V : World) : Prop where
 ord4 : l4 = true → l2 = true
 ord5 : l5 = true → l3 = true
 below : Below W0.heap.size W0 V
 z5 : l2 = true → l4 = false → V.heap[g5]? = some boxZ
 x5 : l4 = true → V.heap[g5]? = some (boxN xA)
 z6 : l3 = true → l5 = false → V.heap[g6]? = some boxZ
 x6 : l5 = true → V.heap[g6]? = some (boxN xC)
 ge5 : l2 = true → W0.heap.size ≤ g5
 ge6 : l3 = true → W0.heap.size ≤ g6
 ne : l2 = true → l3 = true → g5 ≠ g6
structure K8 (W0 : World) (l4 l5 : Bool) (gZ : Nat) (V : World) : Prop where
 below : Below W0.heap.size W0 V
 z : l4 = true → RN V W0.heap.size (.slice (some ⟨gZ, 0, none⟩) 3 3) [xG, xZ, xL]
 ord : l5 = true → l4 = true
def kf5Inv (W0 : World) (gA gC : Nat) (z0 z2 z4 z5 z6 z7 z8 z9 z10 z11 z12 z13 z14 z15 z16 z17 z18 z19 z20 z21 z22 z23 z24 z25 z26 z27 z28 z29 z30 z31 z32 z33 z34 z35 z36 z37 z38 z39 z40 z41 z42 z43 z44 z45 z46 z47 z48 z49 z50 z51 z52 z53 z54 z55 z56 z57 z58 z59 z60 z61 z62 z63 z64 z65 z66 z67 z68 z69 z70 z71 z72 z73 z74 z75 z76 z77 z78 z79 z80 z81 z82 z83 z84 z85 z86 z87 z88 z89 z90 z91 z92 z93 z94 z95 z96 z97 z98 z99 z100 z101 z102 : Value) (L : Array Bool) (ac : Act) (V : World) : Prop := ∃ (l0 l1 l2 l3 l4 l5 : Bool) (g5 : Nat) (g6 : Nat), L = #[l0, l1, l2, l3, l4, l5] ∧ ac = { tmps := #[z0, .pointer (some ⟨gA, 0, none⟩), z2, .pointer (some ⟨gC, 0, none⟩), z4, selv l2 (.pointer (some ⟨g5, 0, none⟩)) (z5), selv l3 (.pointer (some ⟨g6, 0, none⟩)) (z6), z7, z8, z9, z10, z11, z12, z13, z14, z15, z16, z17, z18, z19, z20, z21, selv l0 (vNode xA) (z22), selv l1 (vNode xC) (z23), z24, z25, z26, z27, z28, z29, z30, z31, z32, z33, z34, z35, z36, z37, z38, z39, z40, z41, z42, z43, z44, z45, z46, z47, z48, z49, z50, z51, z52, z53, z54, z55, z56, z57, z58, z59, z60, z61, z62, z63, z64, z65, z66, z67, z68, z69, z70, z71, z72, z73, z74, z75, z76, z77, z78, z79, z80, z81, z82, z83, z84, z85, z86, z87, z88, z89, z90, z91, z92, z93, z94, z95, z96, z97, z98, z99, z100, z101, z102], defers := [] } ∧ Aside0 (K5 W0 l2 l3 l4 l5 g5 g6 V)
def kf8Inv (W0 : World) (g5 g6 : Nat) (z0 z1 z2 z3 z4 z7 z8 z9 z10 z11 z12 z13 z14 z15 z16 z17 z18 z19 z20 z21 z22 z23 z24 z25 z26 z27 z28 z29 z30 z31 z32 z33 z34 z35 z36 z37 z38 z39 z40 z41 z42 z43 z44 z45 z46 z47 z48 z49 z50 z51 z52 z53 z54 z55 z56 z57 z58 z59 z60 z61 z62 z63 z64 z65 z66 z67 z68 z69 z70 z71 z72 z73 z74 z75 z76 z77 z78 z79 z80 z81 z82 z83 z84 z85 z86 z87 z88 z89 z90 z91 z92 z93 z94 z95 z96 z97 z98 z99 z100 z101 z102 : Value) (L : Array Bool) (ac : Act) (V : World) : Prop := ∃ (l0 l1 l2 l3 l4 l5 : Bool) (gZ : Nat), L = #[l0, l1, l2, l3, l4, l5] ∧ ac = { tmps := #[z0, z1, z2, z3, z4, .pointer (some ⟨g5, 0, none⟩), .pointer (some ⟨g6, 0, none⟩), z7, selv l5 (.slice (some ⟨gZ, 0, none⟩) 3 3) (z8), z9, z10, z11, z12, z13, z14, z15, z16, z17, z18, z19, z20, z21, z22, z23, z24, z25, z26, z27, z28, z29, z30, z31, z32, selv l0 (vNode xG) (z33), selv l1 (vDot ⟨2, 1⟩) (z34), selv l2 (vNode xZ) (z35), selv l3 (vNode xL) (z36), selv l4 (.slice (some ⟨gZ, 0, none⟩) 3 3) (z37), z38, z39, z40, z41, z42, z43, z44, z45, z46, z47, z48, z49, z50, z51, z52, z53, z54, z55, z56, z57, z58, z59, z60, z61, z62, z63, z64, z65, z66, z67, z68, z69, z70, z71, z72, z73, z74, z75, z76, z77, z78, z79, z80, z81, z82, z83, z84, z85, z86, z87, z88, z89, z90, z91, z92, z93, z94, z95, z96, z97, z98, z99, z100, z101, z102], defers := [] } ∧ Aside0 (K8 W0 l4 l5 gZ V)
set_option maxHeartbeats 4000000 in
set_option maxRecDepth 100000 in
theorem known15_call (w : World) : Calls Tryz.prog 10 #[] w fun e w' => e = .returned (.bool true) ∧ Below w.heap.size w w' := by
 have hu := Tryz.underlying53
 have hu2 := Tryz.underlying25
 go_enter Tryz.func10, Tryz.ntmps10
 have HB : Aside0 (Below w.heap.size w w) := ⟨Below.refl _ _⟩
 go_wp2_with fail
 refine (redpencillaw15_dot.calls 1 1 1 1 _ rfl).mono ?_
 rintro e V1 ⟨rfl, hb⟩
 have HB := Aside0.mk (below_more HB.out hb)
 clear hb
 have hb0 := below_alloc (Below.refl V1.heap.size V1) (boxN xA)
 have H1 := Aside0.mk (blk_new V1 (boxN xA))
 have HB := Aside0.mk (below_more HB.out hb0)
 clear hb0
 go_wp2_with fail
 refine (redpencillaw15_dot.calls 1 2 1 2 (V1.alloc (boxN xA)) rfl).mono ?_
 rintro e V2 ⟨rfl, hb⟩
 have H1 := Aside0.mk (blk_keep H1.out hb)
 have HB := Aside0.mk (below_more HB.out hb)
 clear hb
 go_wp2_with fail
 refine (redpencillaw15_dot.calls 1 1 1 1 V2 rfl).mono ?_
 rintro e V3 ⟨rfl, hb⟩
 have H1 := Aside0.mk (blk_keep H1.out hb)
 have HB := Aside0.mk (below_more HB.out hb)
 clear hb
 have hb0 := below_alloc (Below.refl V3.heap.size V3) (boxN xB)
 have H2 := Aside0.mk (blk_new V3 (boxN xB))
 have H1 := Aside0.mk (blk_keep H1.out hb0)
 have HB := Aside0.mk (below_more HB.out hb0)
 clear hb0
 go_wp2_with fail
 refine (redpencillaw15_dot.calls 1 3 1 3 (V3.alloc (boxN xB)) rfl).mono ?_
 rintro e V4 ⟨rfl, hb⟩
 have H1 := Aside0.mk (blk_keep H1.out hb)
 have H2 := Aside0.mk (blk_keep H2.out hb)
 have HB := Aside0.mk (below_more HB.out hb)
 clear hb
 go_wp2_with fail
 refine (redpencillaw15_dot.calls 1 2 1 2 V4 rfl).mono ?_
 rintro e V5 ⟨rfl, hb⟩
 have H1 := Aside0.mk (blk_keep H1.out hb)
 have H2 := Aside0.mk (blk_keep H2.out hb)
 have HB := Aside0.mk (below_more HB.out hb)
 clear hb
 have hb0 := below_alloc (Below.refl V5.heap.size V5) (boxN xC)
 have H3 := Aside0.mk (blk_new V5 (boxN xC))
 have H1 := Aside0.mk (blk_keep H1.out hb0)
 have H2 := Aside0.mk (blk_keep H2.out hb0)
 have HB := Aside0.mk (below_more HB.out hb0)
 clear hb0
 have a0 : (V5.alloc (.cells #[.int .i64 1, .int .i64 3, .int .i64 1, .int .i64 2, .int .i64 3, .int .i32 99] 53 (0, 0) : Obj)).cell? ⟨V1.heap.size, 0, none⟩ = some (.int .i64 1) := (blk_cell H1.out 0).trans rfl
 have a1 : (V5.alloc (.cells #[.int .i64 1, .int .i64 3, .int .i64 1, .int .i64 2, .int .i64 3, .int .i32 99] 53 (0, 0) : Obj)).cell? ⟨V1.heap.size, 1, none⟩ = some (.int .i64 1) := (blk_cell H1.out 1).trans rfl
 have a2 : (V5.alloc (.cells #[.int .i64 1, .int .i64 3, .int .i64 1, .int .i64 2, .int .i64 3, .int .i32 99] 53 (0, 0) : Obj)).cell? ⟨V1.heap.size, 2, none⟩ = some (.int .i64 0) := (blk_cell H1.out 2).trans rfl
 have a3 : (V5.alloc (.cells #[.int .i64 1, .int .i64 3, .int .i64 1, .int .i64 2, .int .i64 3, .int .i32 99] 53 (0, 0) : Obj)).cell? ⟨V1.heap.size, 3, none⟩ = some (.int .i64 0) := (blk_cell H1.out 3).trans rfl
 have a4 : (V5.alloc (.cells #[.int .i64 1, .int .i64 3, .int .i64 1, .int .i64 2, .int .i64 3, .int .i32 99] 53 (0, 0) : Obj)).cell? ⟨V1.heap.size, 4, none⟩ = some (.int .i64 1) := (blk_cell H1.out 4).trans rfl
 have a5 : (V5.alloc (.cells #[.int .i64 1, .int .i64 3, .int .i64 1, .int .i64 2, .int .i64 3, .int .i32 99] 53 (0, 0) : Obj)).cell? ⟨V1.heap.size, 5, none⟩ = some (.int .i32 97) := (blk_cell H1.out 5).trans rfl
 have b0 : (V5.alloc (.cells #[.int .i64 1, .int .i64 3, .int .i64 1, .int .i64 2, .int .i64 3, .int .i32 99] 53 (0, 0) : Obj)).cell? ⟨V3.heap.size, 0, none⟩ = some (.int .i64 1) := (blk_cell H2.out 0).trans rfl
 have b1 : (V5.alloc (.cells #[.int .i64 1, .int .i64 3, .int .i64 1, .int .i64 2, .int .i64 3, .int .i32 99] 53 (0, 0) : Obj)).cell? ⟨V3.heap.size, 1, none⟩ = some (.int .i64 2) := (blk_cell H2.out 1).trans rfl
 have b2 : (V5.alloc (.cells #[.int .i64 1, .int .i64 3, .int .i64 1, .int .i64 2, .int .i64 3, .int .i32 99] 53 (0, 0) : Obj)).cell? ⟨V3.heap.size, 2, none⟩ = some (.int .i64 1) := (blk_cell H2.out 2).trans rfl
 have b3 : (V5.alloc (.cells #[.int .i64 1, .int .i64 3, .int .i64 1, .int .i64 2, .int .i64 3, .int .i32 99] 53 (0, 0) : Obj)).cell? ⟨V3.heap.size, 3, none⟩ = some (.int .i64 1) := (blk_cell H2.out 3).trans rfl
 have b4 : (V5.alloc (.cells #[.int .i64 1, .int .i64 3, .int .i64 1, .int .i64 2, .int .i64 3, .int .i32 99] 53 (0, 0) : Obj)).cell? ⟨V3.heap.size, 4, none⟩ = some (.int .i64 2) := (blk_cell H2.out 4).trans rfl
 have b5 : (V5.alloc (.cells #[.int .i64 1, .int .i64 3, .int .i64 1, .int .i64 2, .int .i64 3, .int .i32 99] 53 (0, 0) : Obj)).cell? ⟨V3.heap.size, 5, none⟩ = some (.int .i32 0) := (blk_cell H2.out 5).trans rfl
 have c0 : (V5.alloc (.cells #[.int .i64 1, .int .i64 3, .int .i64 1, .int .i64 2, .int .i64 3, .int .i32 99] 53 (0, 0) : Obj)).cell? ⟨V5.heap.size, 0, none⟩ = some (.int .i64 1) := (blk_cell H3.out 0).trans rfl
 have c1 : (V5.alloc (.cells #[.int .i64 1, .int .i64 3, .int .i64 1, .int .i64 2, .int .i64 3, .int .i32 99] 53 (0, 0) : Obj)).cell? ⟨V5.heap.size, 1, none⟩ = some (.int .i64 3) := (blk_cell H3.out 1).trans rfl
 have c2 : (V5.alloc (.cells #[.int .i64 1, .int .i64 3, .int .i64 1, .int .i64 2, .int .i64 3, .int .i32 99] 53 (0, 0) : Obj)).cell? ⟨V5.heap.size, 2, none⟩ = some (.int .i64 1) := (blk_cell H3.out 2).trans rfl
 have c3 : (V5.alloc (.cells #[.int .i64 1, .int .i64 3, .int .i64 1, .int .i64 2, .int .i64 3, .int .i32 99] 53 (0, 0) : Obj)).cell? ⟨V5.heap.size, 3, none⟩ = some (.int .i64 2) := (blk_cell H3.out 3).trans rfl
 have c4 : (V5.alloc (.cells #[.int .i64 1, .int .i64 3, .int .i64 1, .int .i64 2, .int .i64 3, .int .i32 99] 53 (0, 0) : Obj)).cell? ⟨V5.heap.size, 4, none⟩ = some (.int .i64 3) := (blk_cell H3.out 4).trans rfl
 have c5 : (V5.alloc (.cells #[.int .i64 1, .int .i64 3, .int .i64 1, .int .i64 2, .int .i64 3, .int .i32 99] 53 (0, 0) : Obj)).cell? ⟨V5.heap.size, 5, none⟩ = some (.int .i32 99) := (blk_cell H3.out 5).trans rfl
 go_wp2_with fail
 clear a0 a1 a2 a3 a4 a5 b0 b1 b2 b3 b4 b5 c0 c1 c2 c3 c4 c5
 have hb0 := below_alloc (Below.refl _ (V5.alloc (boxN xC))) (.cells #[.int .i64 1, .int .i64 1, .int .i64 0, .int .i64 0, .int .i64 1, .int .i32 97, .int .i64 1, .int .i64 2, .int .i64 1, .int .i64 1, .int .i64 2, .int .i32 0, .int .i64 1, .int .i64 3, .int .i64 1, .int .i64 2, .int .i64 3, .int .i32 99] 53 (0, 0) : Obj)
 have HS := Aside0.mk (Kd.R_reads' (lit_nodes (V5.alloc (boxN xC)) 0 (Nat.zero_le _) [xA, xB, xC] 3 rfl (by decide) (by decide) #[.int .i64 1, .int .i64 1, .int .i64 0, .int .i64 0, .int .i64 1, .int .i32 97, .int .i64 1, .int .i64 2, .int .i64 1, .int .i64 1, .int .i64 2, .int .i32 0, .int .i64 1, .int .i64 3, .int .i64 1, .int .i64 2, .int .i64 3, .int .i32 99] rfl)).2.2
 have H1 := Aside0.mk (blk_keep H1.out hb0)
 have H3 := Aside0.mk (blk_keep H3.out hb0)
 have HB := Aside0.mk (below_more HB.out hb0)
 clear hb0 H2
 obtain ⟨V6, HV6⟩ : ∃ V6, V6 = ((V5.alloc (.cells #[.int .i64 1, .int .i64 3, .int .i64 1, .int .i64 2, .int .i64 3, .int .i32 99] 53 (0, 0) : Obj)).alloc (.cells #[.int .i64 1, .int .i64 1, .int .i64 0, .int .i64 0, .int .i64 1, .int .i32 97, .int .i64 1, .int .i64 2, .int .i64 1, .int .i64 1, .int .i64 2, .int .i32 0, .int .i64 1, .int .i64 3, .int .i64 1, .int .i64 2, .int .i64 3, .int .i32 99] 53 (0, 0) : Obj)) := ⟨_, rfl⟩
 have HS : Aside0 (Kd.C k53 V6 (some ⟨V5.heap.size + 1, 0, none⟩) 3 [xA, xB, xC]) := ⟨by rw [HV6]; have := HS.out; rw [show (V5.alloc (boxN xC)).heap.size = V5.heap.size + 1 by simp] at this; exact this⟩
 have H1 : Aside0 (V6.heap[V1.heap.size]? = some (boxN xA)) := ⟨by rw [HV6]; exact H1.out⟩
 have H3 : Aside0 (V6.heap[V5.heap.size]? = some (boxN xC)) := ⟨by rw [HV6]; exact H3.out⟩
 have HB : Aside0 (Below w.heap.size w V6) := ⟨by rw [HV6]; exact HB.out⟩
 try rw [show ((V5.alloc (.cells #[.int .i64 1, .int .i64 3, .int .i64 1, .int .i64 2, .int .i64 3, .int .i32 99] 53 (0, 0) : Obj)).alloc (.cells #[.int .i64 1, .int .i64 1, .int .i64 0, .int .i64 0, .int .i64 1, .int .i32 97, .int .i64 1, .int .i64 2, .int .i64 1, .int .i64 1, .int .i64 2, .int .i32 0, .int .i64 1, .int .i64 3, .int .i64 1, .int .i64 2, .int .i64 3, .int .i32 99] 53 (0, 0) : Obj)) = V6 from HV6.symm]
 refine AnyOrder.wp_region (by kernel_rfl) (kf5Inv V6.drew V1.heap.size V5.heap.size _ _ _ _ _ _ _ _ _ _ _ _ _ _ _ _ _ _ _ _ _ _ _ _ _ _ _ _ _ _ _ _ _ _ _ _ _ _ _ _ _ _ _ _ _ _ _ _ _ _ _ _ _ _ _ _ _ _ _ _ _ _ _ _ _ _ _ _ _ _ _ _ _ _ _ _ _ _ _ _ _ _ _ _ _ _ _ _ _ _ _ _ _ _ _ _ _ _ _ _ _) ⟨false, false, false, false, false, false, 0, 0, rfl, rfl, ⟨⟨fun h => (by cases h), fun h => (by cases h), Below.refl _ _, fun h _ => (by cases h), fun h => (by cases h), fun h _ => (by cases h), fun h => (by cases h), fun h => (by cases h), fun h => (by cases h), fun h _ => (by cases h)⟩⟩⟩ ?step ?last
 case step =>
  rintro L ac V i ⟨l0, l1, l2, l3, l4, l5, g5, g6, rfl, rfl, HF⟩ hi K hK
  rcases AnyOrder.up hi [0, 1, 2, 3, 4, 5] rfl with rfl | rfl | rfl | rfl | rfl | rfl
  all_goals
   replace hi := AnyOrder.first hi rfl
   repeat (obtain ⟨ha, hi⟩ := hi; first | obtain rfl := ha | clear ha)
   clear hi
   try simp only [sel_true, selv_true] at hK ⊢
  ·
   obtain ⟨q0, q1, q2, q3, q4, q5⟩ := box_six (blk_keep (blk_drew H1.out) HF.out.below)
   refine AnyOrder.wpOp_go rfl (by rfl) ?_
   go_wp2_with fail
   exact ⟨_, _, _, _, _, _, g5, g6, rfl, rfl, HF⟩
  ·
   obtain ⟨q0, q1, q2, q3, q4, q5⟩ := box_six (blk_keep (blk_drew H3.out) HF.out.below)
   refine AnyOrder.wpOp_go rfl (by rfl) ?_
   go_wp2_with fail
   exact ⟨_, _, _, _, _, _, g5, g6, rfl, rfl, HF⟩
  ·
   obtain rfl : l4 = false := by cases l4 with | false => rfl | true => cases HF.out.ord4 rfl
   have hb1 := below_alloc (Below.refl _ V) boxZ
   refine AnyOrder.wpOp_go rfl (by rfl) ?_
   go_wp2_with fail
   exact ⟨_, _, _, _, _, _, V.heap.size, g6, rfl, rfl, ⟨⟨fun h => (by cases h), HF.out.ord5, below_more HF.out.below hb1, fun _ _ => blk_new _ _, fun h => (by cases h), fun h k => blk_keep (HF.out.z6 h k) hb1, fun h => blk_keep (HF.out.x6 h) hb1, fun _ => HF.out.below.size, HF.out.ge6, fun _ h => Nat.ne_of_gt (by cases l5 with | false => exact blk_lt (HF.out.z6 h rfl) | true => exact blk_lt (HF.out.x6 rfl))⟩⟩⟩
  ·
   obtain rfl : l5 = false := by cases l5 with | false => rfl | true => cases HF.out.ord5 rfl
   have hb1 := below_alloc (Below.refl _ V) boxZ
   refine AnyOrder.wpOp_go rfl (by rfl) ?_
   go_wp2_with fail
   exact ⟨_, _, _, _, _, _, g5, V.heap.size, rfl, rfl, ⟨⟨HF.out.ord4, fun h => (by cases h), below_more HF.out.below hb1, fun h k => blk_keep (HF.out.z5 h k) hb1, fun h => blk_keep (HF.out.x5 h) hb1, fun _ _ => blk_new _ _, fun h => (by cases h), HF.out.ge5, fun _ => HF.out.below.size, fun h _ => Nat.ne_of_lt (by cases l4 with | false => exact blk_lt (HF.out.z5 h rfl) | true => exact blk_lt (HF.out.x5 rfl))⟩⟩⟩
  ·
   refine AnyOrder.wpOp_go rfl (by rfl) ?_
   refine op_boxNode (.tmp 5) (.tmp 22) rfl rfl (HF.out.z5 rfl rfl) xA rfl rfl ?_
   intro W4 h1 h2
   have far : ∀ {q : Nat} {o : Obj}, V.heap[q]? = some o → q ≠ g5 → W4.heap[q]? = some o := fun hq hn => (h2.block _ (blk_lt hq) (fun e => hn (Option.some.inj e))).trans hq
   exact hK _ _ ⟨_, _, _, _, _, _, g5, g6, rfl, rfl, ⟨⟨fun _ => rfl, HF.out.ord5, HF.out.below.grown h2 HF.out.below.size (fun q e => by cases e; exact HF.out.ge5 rfl), fun _ h => (by cases h), fun _ => h1, fun h k => far (HF.out.z6 h k) (fun e => HF.out.ne rfl h e.symm), fun h => far (HF.out.x6 h) (fun e => HF.out.ne rfl (HF.out.ord5 h) e.symm), HF.out.ge5, HF.out.ge6, HF.out.ne⟩⟩⟩
  ·
   refine AnyOrder.wpOp_go rfl (by rfl) ?_
   refine op_boxNode (.tmp 6) (.tmp 23) rfl rfl (HF.out.z6 rfl rfl) xC rfl rfl ?_
   intro W4 h1 h2
   have far : ∀ {q : Nat} {o : Obj}, V.heap[q]? = some o → q ≠ g6 → W4.heap[q]? = some o := fun hq hn => (h2.block _ (blk_lt hq) (fun e => hn (Option.some.inj e))).trans hq
   exact hK _ _ ⟨_, _, _, _, _, _, g5, g6, rfl, rfl, ⟨⟨HF.out.ord4, fun _ => rfl, HF.out.below.grown h2 HF.out.below.size (fun q e => by cases e; exact HF.out.ge6 rfl), fun h k => far (HF.out.z5 h k) (fun e => HF.out.ne h rfl e), fun h => far (HF.out.x5 h) (fun e => HF.out.ne (HF.out.ord4 h) rfl e), fun _ h => (by cases h), fun _ => h1, HF.out.ge5, HF.out.ge6, HF.out.ne⟩⟩⟩
 case last =>
  rintro L ac V ⟨l0, l1, l2, l3, l4, l5, g5, g6, rfl, rfl, HF⟩ hr
  obtain ⟨rfl, rfl, rfl, rfl, rfl, rfl, -⟩ := AnyOrder.alls rfl (by kernel_rfl) hr
  clear hr
  simp only [sel_true, selv_true]
  have H5 := Aside0.mk (HF.out.x5 rfl)
  have H6 := Aside0.mk (HF.out.x6 rfl)
  have HNE := Aside0.mk (HF.out.ne rfl rfl)
  have hbb := below_more (below_drew1 (Below.refl _ V6)) HF.out.below
  have HG : Aside0 (V6.heap.size ≤ g5 ∧ V6.heap.size ≤ g6) := ⟨HF.out.ge5 rfl, HF.out.ge6 rfl⟩
  have HB6 := Aside0.mk hbb
  clear HF hbb H1 H3
  generalize V = V7 at *
  have c5 : V7.cell? ⟨g5, 5, none⟩ = some (.int .i32 97) := (blk_cell H5.out 5).trans rfl
  have f5 := blk_frozen H5.out 5
  have h6 : (V7.setCell ⟨g5, 5, none⟩ (.int .i32 0)).heap[g6]? = some (boxN xC) := by rw [far_setCell (fun e => HNE.out e.symm)]; exact H6.out
  have c6 : (V7.setCell ⟨g5, 5, none⟩ (.int .i32 0)).cell? ⟨g6, 5, none⟩ = some (.int .i32 99) := (blk_cell h6 5).trans rfl
  have f6 := blk_frozen h6 5
  have K6 := Aside0.mk (blk_set h6 5 (.int .i32 0))
  have k5 := blk_set H5.out 5 (.int .i32 0)
  have K5 : Aside0 (((V7.setCell ⟨g5, 5, none⟩ (.int .i32 0)).setCell ⟨g6, 5, none⟩ (.int .i32 0)).heap[g5]? = some (boxN xG)) := ⟨by rw [far_setCell HNE.out]; exact k5⟩
  have K6 : Aside0 (((V7.setCell ⟨g5, 5, none⟩ (.int .i32 0)).setCell ⟨g6, 5, none⟩ (.int .i32 0)).heap[g6]? = some (boxN xL)) := ⟨K6.out⟩
  have HB7 : Aside0 (Below V6.heap.size V6 ((V7.setCell ⟨g5, 5, none⟩ (.int .i32 0)).setCell ⟨g6, 5, none⟩ (.int .i32 0))) := ⟨by
   have h1 := HB6.out.grown (grown_cell (V := V7) (W := V7) ⟨rfl, rfl, rfl, Nat.le_refl _, fun _ _ _ => rfl⟩ 5 (.int .i32 0)) HB6.out.size (fun q e => by cases e; exact HG.out.1)
   exact h1.grown (grown_cell (V := V7.setCell ⟨g5, 5, none⟩ (.int .i32 0)) (W := V7.setCell ⟨g5, 5, none⟩ (.int .i32 0)) ⟨rfl, rfl, rfl, Nat.le_refl _, fun _ _ _ => rfl⟩ 5 (.int .i32 0)) h1.size (fun q e => by cases e; exact HG.out.2)⟩
  clear k5 h6
  go_wp2_with fail
  clear c5 f5 c6 f6
  have HB := Aside0.mk (below_more HB.out HB7.out)
  have HS := Aside0.mk (Kd.C_below HS.out HB7.out)
  clear HB6 HB7 H5 H6 HNE HG
  generalize (V7.setCell ⟨g5, 5, none⟩ (.int .i32 0)).setCell ⟨g6, 5, none⟩ (.int .i32 0) = V8 at *
  generalize V5.heap.size + 1 = gS at *
  refine (redpencillaw15_dot.calls 2 1 2 1 V8 rfl).mono ?_
  rintro e V9 ⟨rfl, hb⟩
  have HB := Aside0.mk (below_more HB.out hb)
  have HS := Aside0.mk (Kd.C_below HS.out hb)
  have K5 := Aside0.mk (blk_keep K5.out hb)
  have K6 := Aside0.mk (blk_keep K6.out hb)
  clear hb
  go_wp2_with fail
  refine (redpencillaw15_dot.calls 1 1 1 1 V9 rfl).mono ?_
  rintro e V10 ⟨rfl, hb⟩
  have HB := Aside0.mk (below_more HB.out hb)
  have HS := Aside0.mk (Kd.C_below HS.out hb)
  have K5 := Aside0.mk (blk_keep K5.out hb)
  have K6 := Aside0.mk (blk_keep K6.out hb)
  clear hb
  go_wp2_with fail
  refine (redpencillaw15_dot.calls 2 2 2 2 V10 rfl).mono ?_
  rintro e V11 ⟨rfl, hb⟩
  have HB := Aside0.mk (below_more HB.out hb)
  have HS := Aside0.mk (Kd.C_below HS.out hb)
  have K5 := Aside0.mk (blk_keep K5.out hb)
  have K6 := Aside0.mk (blk_keep K6.out hb)
  clear hb
  go_wp2_with fail
  refine (redpencillaw15_dot.calls 2 1 2 1 V11 rfl).mono ?_
  rintro e V12 ⟨rfl, hb⟩
  have HB := Aside0.mk (below_more HB.out hb)
  have HS := Aside0.mk (Kd.C_below HS.out hb)
  have K5 := Aside0.mk (blk_keep K5.out hb)
  have K6 := Aside0.mk (blk_keep K6.out hb)
  clear hb
  go_wp2_with fail
  have hb := below_alloc (Below.refl V12.heap.size V12) (.cells #[.int .i64 2, .int .i64 1, .int .i64 1, .int .i64 1, .int .i64 4, .int .i32 120, .int .i64 2, .int .i64 2, .int .i64 2, .int .i64 1, .int .i64 5, .int .i32 121] 53 (0, 0) : Obj)
  have HX := Aside0.mk (Kd.R_reads' (lit_nodes V12 0 (Nat.zero_le _) [xX, xY] 2 rfl (by decide) (by decide) #[.int .i64 2, .int .i64 1, .int .i64 1, .int .i64 1, .int .i64 4, .int .i32 120, .int .i64 2, .int .i64 2, .int .i64 2, .int .i64 1, .int .i64 5, .int .i32 121] rfl)).2.2
  have HB := Aside0.mk (below_more HB.out hb)
  have HS := Aside0.mk (Kd.C_below HS.out hb)
  have K5 := Aside0.mk (blk_keep K5.out hb)
  have K6 := Aside0.mk (blk_keep K6.out hb)
  clear hb
  obtain ⟨V13, HV13⟩ : ∃ V13, V13 = V12.alloc (.cells #[.int .i64 2, .int .i64 1, .int .i64 1, .int .i64 1, .int .i64 4, .int .i32 120, .int .i64 2, .int .i64 2, .int .i64 2, .int .i64 1, .int .i64 5, .int .i32 121] 53 (0, 0) : Obj) := ⟨_, rfl⟩
  rw [← HV13] at HB HS K5 K6 HX
  try rw [show V12.alloc (.cells #[.int .i64 2, .int .i64 1, .int .i64 1, .int .i64 1, .int .i64 4, .int .i32 120, .int .i64 2, .int .i64 2, .int .i64 2, .int .i64 1, .int .i64 5, .int .i32 121] 53 (0, 0) : Obj) = V13 from HV13.symm]
  refine AnyOrder.wp_region (by kernel_rfl) (kf8Inv V13.drew g5 g6 _ _ _ _ _ _ _ _ _ _ _ _ _ _ _ _ _ _ _ _ _ _ _ _ _ _ _ _ _ _ _ _ _ _ _ _ _ _ _ _ _ _ _ _ _ _ _ _ _ _ _ _ _ _ _ _ _ _ _ _ _ _ _ _ _ _ _ _ _ _ _ _ _ _ _ _ _ _ _ _ _ _ _ _ _ _ _ _ _ _ _ _ _ _ _ _ _ _ _ _ _) ⟨false, false, false, false, false, false, 0, rfl, rfl, ⟨⟨Below.refl _ _, fun h => (by cases h), fun h => (by cases h)⟩⟩⟩ ?step ?last
  case step =>
   rintro L ac V i ⟨l0, l1, l2, l3, l4, l5, gZ, rfl, rfl, HF⟩ hi K hK
   rcases AnyOrder.up hi [0, 1, 2, 3, 4, 5] rfl with rfl | rfl | rfl | rfl | rfl | rfl
   all_goals
    replace hi := AnyOrder.first hi rfl
    repeat (obtain ⟨ha, hi⟩ := hi; first | obtain rfl := ha | clear ha)
    clear hi
    try simp only [sel_true, selv_true] at hK ⊢
   ·
    obtain ⟨q0, q1, q2, q3, q4, q5⟩ := box_six (blk_keep (blk_drew K5.out) HF.out.below)
    refine AnyOrder.wpOp_go rfl (by rfl) ?_
    go_wp2_with fail
    exact ⟨_, _, _, _, _, _, gZ, rfl, rfl, HF⟩
   ·
    refine AnyOrder.wpOp_go rfl (by rfl) ?_
    go_wp2_with fail
    refine (redpencillaw15_dot.calls 2 1 2 1 V rfl).mono ?_
    rintro e V' ⟨rfl, hb⟩
    exact hK _ _ ⟨_, _, _, _, _, _, gZ, rfl, rfl, ⟨⟨below_more HF.out.below hb, fun h => RN.below' (HF.out.z h) hb, HF.out.ord⟩⟩⟩
   ·
    refine AnyOrder.wpOp_go rfl (by rfl) ?_
    go_wp2_with fail
    exact ⟨_, _, _, _, _, _, gZ, rfl, rfl, HF⟩
   ·
    obtain ⟨q0, q1, q2, q3, q4, q5⟩ := box_six (blk_keep (blk_drew K6.out) HF.out.below)
    refine AnyOrder.wpOp_go rfl (by rfl) ?_
    go_wp2_with fail
    exact ⟨_, _, _, _, _, _, gZ, rfl, rfl, HF⟩
   ·
    obtain rfl : l5 = false := by cases l5 with | false => rfl | true => cases HF.out.ord rfl
    (try simp only [selv_false] at hK ⊢)
    refine AnyOrder.wpOp_go rfl (by rfl) ?_
    go_wp2_with fail
    exact ⟨_, _, _, _, _, _, V.heap.size, rfl, rfl, ⟨⟨below_more HF.out.below (below_alloc (Below.refl _ V) _), fun _ => lit_nodes V V13.drew.heap.size HF.out.below.size [xG, xZ, xL] 3 rfl (by decide) (by decide) #[.int .i64 1, .int .i64 1, .int .i64 0, .int .i64 0, .int .i64 1, .int .i32 0, .int .i64 2, .int .i64 1, .int .i64 0, .int .i64 0, .int .i64 4, .int .i32 122, .int .i64 1, .int .i64 3, .int .i64 1, .int .i64 2, .int .i64 3, .int .i32 0] rfl, fun _ => rfl⟩⟩⟩
   ·
    refine AnyOrder.wpOp_go rfl (by rfl) ?_
    go_wp2_with fail
    exact ⟨_, _, _, _, _, _, gZ, rfl, rfl, ⟨⟨HF.out.below, HF.out.z, fun _ => rfl⟩⟩⟩
  case last =>
   rintro L ac V ⟨l0, l1, l2, l3, l4, l5, gZ, rfl, rfl, HF⟩ hr
   obtain ⟨rfl, rfl, rfl, rfl, rfl, rfl, -⟩ := AnyOrder.alls rfl (by kernel_rfl) hr
   clear hr
   simp only [sel_true, selv_true]
   have hbb := below_more (below_drew1 (Below.refl _ V13)) HF.out.below
   have HK := Aside0.mk (show K15 w gS V12.heap.size gZ g6 V from ⟨below_more HB.out hbb, Kd.C_below HS.out hbb, Kd.C_below HX.out hbb, (Kd.R_reads' (HF.out.z rfl)).2.2, blk_keep K6.out hbb⟩)
   clear HF hbb HB HS HX K5 K6 HV13 HV6
   generalize V12.heap.size = gX at *
   generalize V = U0 at *
   go_wp2_with fail
   refine (redpencillaw15_dot.calls 2 1 2 1 _ rfl).mono ?_
   rintro e U1 ⟨rfl, hb⟩
   have HK := Aside0.mk (HK.out.more hb)
   clear hb
   go_wp2_with fail
   have hb := below_alloc (Below.refl _ U1) (.cells #[.int .i32 120, .int .i32 121] 21 (0, 0) : Obj)
   have HRR := Aside0.mk (blk_new U1 (.cells #[.int .i32 120, .int .i32 121] 21 (0, 0) : Obj))
   have HK := Aside0.mk (HK.out.more hb)
   clear hb
   refine (redpencillaw15_inserts.calls 60 _ 3 [xA, xB, xC] 2 1 1 _ 2 [120, 121] _ 2 [xX, xY] 0 true _ HK.out.s (Nat.le_refl _) (intRow_C [120, 121] _ rfl HRR.out (by decide)) (Nat.le_refl _) HK.out.x (Nat.le_refl _) kn15_0).mono ?_
   rintro e U2 ⟨rfl, hb⟩
   have HK := Aside0.mk (HK.out.more hb)
   clear hb
   clear HRR
   go_wp2_with fail
   refine (texts_call 60 _ 3 [xA, xB, xC] _ 2 [xX, xY] ⟨#[97, 120, 121, 99]⟩ _ _ _ HK.out.s (Nat.le_refl _) HK.out.x (Nat.le_refl _) kn15_1 (by kernel_rfl)).mono ?_
   rintro e U3 ⟨rfl, hb⟩
   have HK := Aside0.mk (HK.out.more hb)
   clear hb
   obtain ⟨q0, q1, q2, q3, q4, q5⟩ := box_six HK.out.also
   go_wp2_with fail
   clear q0 q1 q2 q3 q4 q5
   have HRL := Aside0.mk (Kd.R_reads' (lit_nodes U3 0 (Nat.zero_le _) [xL] 1 rfl (by decide) (by decide) #[.int .i64 1, .int .i64 3, .int .i64 1, .int .i64 2, .int .i64 3, .int .i32 0] rfl)).2.2
   have hb := below_alloc (Below.refl _ U3) (.cells #[.int .i64 1, .int .i64 3, .int .i64 1, .int .i64 2, .int .i64 3, .int .i32 0] 53 (0, 0) : Obj)
   have HK := Aside0.mk (HK.out.more hb)
   clear hb
   refine (redpencillaw15_deletes.calls 60 _ 3 [xA, xB, xC] 1 1 _ 1 [xL] 0 true _ HK.out.s (Nat.le_refl _) HRL.out (Nat.le_refl _) kn15_2).mono ?_
   rintro e U4 ⟨rfl, hb⟩
   have HK := Aside0.mk (HK.out.more hb)
   clear hb
   clear HRL
   go_wp2_with fail
   refine (redpencillaw15_dot.calls 2 1 2 1 _ rfl).mono ?_
   rintro e U5 ⟨rfl, hb⟩
   have HK := Aside0.mk (HK.out.more hb)
   clear hb
   go_wp2_with fail
   have hb := below_alloc (Below.refl _ U5) (.cells #[.int .i32 122] 21 (0, 0) : Obj)
   have HRR := Aside0.mk (blk_new U5 (.cells #[.int .i32 122] 21 (0, 0) : Obj))
   have HK := Aside0.mk (HK.out.more hb)
   clear hb
   refine (redpencillaw15_replaces.calls 60 _ 3 [xA, xB, xC] 2 1 0 2 _ 1 [122] _ 3 [xG, xZ, xL] 0 true _ HK.out.s (Nat.le_refl _) (intRow_C [122] _ rfl HRR.out (by decide)) (Nat.le_refl _) HK.out.z (Nat.le_refl _) kn15_3).mono ?_
   rintro e U6 ⟨rfl, hb⟩
   have HK := Aside0.mk (HK.out.more hb)
   clear hb
   clear HRR
   go_wp2_with fail
   refine (texts_call 60 _ 3 [xA, xB, xC] _ 3 [xG, xZ, xL] ⟨#[122]⟩ _ _ _ HK.out.s (Nat.le_refl _) HK.out.z (Nat.le_refl _) kn15_4 (by kernel_rfl)).mono ?_
   rintro e U7 ⟨rfl, hb⟩
   have HK := Aside0.mk (HK.out.more hb)
   clear hb
   go_wp2_with fail
   have hb := below_alloc (Below.refl _ U7) (.cells #[.int .i32 120] 21 (0, 0) : Obj)
   have HRR := Aside0.mk (blk_new U7 (.cells #[.int .i32 120] 21 (0, 0) : Obj))
   have HK := Aside0.mk (HK.out.more hb)
   clear hb
   have HONE := Aside0.mk HRR.out
   clear HRR
   refine (redpencillaw15_dot.calls 2 1 2 1 _ rfl).mono ?_
   rintro e U8 ⟨rfl, hb⟩
   have HK := Aside0.mk (HK.out.more hb)
   have HONE := Aside0.mk (blk_keep HONE.out hb)
   clear hb
   go_wp2_with fail
   refine (redpencillaw15_inserts.calls 60 _ 3 [xA, xB, xC] 2 1 3 _ 1 [120] _ 0 [] 3 true _ HK.out.s (Nat.le_refl _) (intRow_C [120] _ rfl HONE.out (by decide)) (Nat.le_refl _) nilNs (Nat.le_refl _) kn15_5).mono ?_
   rintro e U9 ⟨rfl, hb⟩
   have HK := Aside0.mk (HK.out.more hb)
   have HONE := Aside0.mk (blk_keep HONE.out hb)
   clear hb
   go_wp2_with fail
   refine (redpencillaw15_dot.calls 1 1 1 1 _ rfl).mono ?_
   rintro e U10 ⟨rfl, hb⟩
   have HK := Aside0.mk (HK.out.more hb)
   have HONE := Aside0.mk (blk_keep HONE.out hb)
   clear hb
   go_wp2_with fail
   refine (redpencillaw15_inserts.calls 60 _ 3 [xA, xB, xC] 1 1 0 _ 1 [120] _ 0 [] 11 true _ HK.out.s (Nat.le_refl _) (intRow_C [120] _ rfl HONE.out (by decide)) (Nat.le_refl _) nilNs (Nat.le_refl _) kn15_6).mono ?_
   rintro e U11 ⟨rfl, hb⟩
   have HK := Aside0.mk (HK.out.more hb)
   have HONE := Aside0.mk (blk_keep HONE.out hb)
   clear hb
   clear HONE
   go_wp2_with fail
   refine (redpencillaw15_dot.calls 2 4294967295 2 4294967295 _ rfl).mono ?_
   rintro e U12 ⟨rfl, hb⟩
   have HK := Aside0.mk (HK.out.more hb)
   clear hb
   go_wp2_with fail
   have hb := below_alloc (Below.refl _ U12) (.cells #[.int .i32 120, .int .i32 121] 21 (0, 0) : Obj)
   have HRR := Aside0.mk (blk_new U12 (.cells #[.int .i32 120, .int .i32 121] 21 (0, 0) : Obj))
   have HK := Aside0.mk (HK.out.more hb)
   clear hb
   refine (redpencillaw15_inserts.calls 60 _ 3 [xA, xB, xC] 2 4294967295 0 _ 2 [120, 121] _ 0 [] 14 true _ HK.out.s (Nat.le_refl _) (intRow_C [120, 121] _ rfl HRR.out (by decide)) (Nat.le_refl _) nilNs (Nat.le_refl _) kn15_7).mono ?_
   rintro e U13 ⟨rfl, hb⟩
   have HK := Aside0.mk (HK.out.more hb)
   clear hb
   clear HRR
   go_wp2_with fail
   refine (redpencillaw15_dot.calls 2 1 2 1 _ rfl).mono ?_
   rintro e U14 ⟨rfl, hb⟩
   have HK := Aside0.mk (HK.out.more hb)
   clear hb
   go_wp2_with fail
   have hb := below_alloc (Below.refl _ U14) (.cells #[.int .i32 0] 21 (0, 0) : Obj)
   have HRR := Aside0.mk (blk_new U14 (.cells #[.int .i32 0] 21 (0, 0) : Obj))
   have HK := Aside0.mk (HK.out.more hb)
   clear hb
   refine (redpencillaw15_inserts.calls 60 _ 3 [xA, xB, xC] 2 1 0 _ 1 [0] _ 0 [] 13 true _ HK.out.s (Nat.le_refl _) (intRow_C [0] _ rfl HRR.out (by decide)) (Nat.le_refl _) nilNs (Nat.le_refl _) kn15_8).mono ?_
   rintro e U15 ⟨rfl, hb⟩
   have HK := Aside0.mk (HK.out.more hb)
   clear hb
   clear HRR
   go_wp2_with fail
   refine (redpencillaw15_deletes.calls 60 _ 3 [xA, xB, xC] 0 3 _ 0 [] 3 true _ HK.out.s (Nat.le_refl _) nilNs (Nat.le_refl _) kn15_9).mono ?_
   rintro e U16 ⟨rfl, hb⟩
   have HK := Aside0.mk (HK.out.more hb)
   clear hb
   go_wp2_with fail
   refine (edit_Latest.calls 60 _ 3 [xA, xB, xC] 3 _ HK.out.s (Nat.le_refl _) kn15_10).mono ?_
   rintro e U17 ⟨rfl, hb⟩
   have HK := Aside0.mk (HK.out.more hb)
   clear hb
   go_wp2
   go_ret
   exact ⟨rfl, HK.out.below⟩
end Go.Proofs.YtmbndijbpgobeaaGreat.PWalk
end
section
namespace Go.Proofs.YtmbndijbpgobeaaGreat.PWalk
open Go.RowKit Go.Proofs.YtmbndijbpgobeaaGreatW.PrintWords Go.Proofs.YtmbndijbpgobeaaGreatW.PrintLast Go.Proofs.YtmbndijbpgobeaaGreatW.PrintMore
set_option linter.unusedVariables false
set_option linter.unusedSimpArgs false
open Go.Shelf
attribute [local go_sem] Oper.semAt_some
theorem app_rowI {ops : Array Oper} {Q : Exit → Act → World → Prop} {o : Oper} {rest : List Oper} {a : Act} {W : World} (hgd : o.guard = none) (x : Operand)
  (ho : o.op = .call { callee := .builtin .append, args := #[.const (.slice none 0 0), x], argTypes := #[26, 26] }) (A : Option Addr) (l0 : List Int) (n c : Nat) (hn : l0.length = n) (hx : a.eval x = .slice A n c)
  (hr : Kd.C (Kd.int .i32) W A n l0) (hl : n ≤ 1000000)
  (h : ∀ v1 w1, Kd.R (Kd.int .i32) 21 w1 W.heap.size (fun _ => True) v1 l0 → Below W.heap.size W w1 → wpList Tryz.prog ops Q rest (a.put o.dst v1) w1) : wpList Tryz.prog ops Q (o :: rest) a W := by
 subst hn
 refine Kd.R_append_rows (Kd.int .i32) (w0 := W) W.heap.size hgd (.const (.slice none 0 0)) x 26 21 (.int .i32 0) 4 ho Tryz.underlying26 info21 rfl (by decide) (by decide) (.slice none 0 0) [] l0 A l0.length c (fun _ => True) (fun _ => False) rfl hx (Kd.R_nil _ _ _ _ _) hr (fun x cs h => h) (fun _ hk => hk.elim) (fun _ _ => trivial) (Below.refl _ _) (Nat.le_refl _) (by simp; omega) ?_
 intro v1 w1 ho hb _ _
 exact h v1 w1 ho hb
theorem kept_is (l : List Node) (rs : List Int) (hl : l.length ≤ 1000000) (hr : rs.length ≤ 1000000) {k : Nat} (hk : l.length < k) (hk2 : rs.length < k) : redpencillaw15_kept.f k l l rs rs = some true := by
 unfold redpencillaw15_kept.f
 rw [jsame_is l hl hk, Option.bind_some, if_pos rfl, jsameI_is rs hr hk2]
 rfl
theorem repl_le {l : List Node} {d : Dot} {a n : Int} {rs : List Int} (hrs : rs.length ≤ 20000) : (replR l d a n rs).1.length ≤ l.length + rs.length := by
 rw [← repl_is hrs]
 unfold replJ
 split
 ·
  exact Nat.zero_le _
 ·
  split
  ·
   exact Nat.zero_le _
  ·
   rename_i he _
   obtain ⟨h1, _⟩ := err_zero hrs (Decidable.not_not.1 he)
   have h2 := joinJ_le (chainE d (leftE l a) (lastOf l) rs) (joinJ [] ((cutV l a n).map deadN))
   have h3 : (chainE d (leftE l a) (lastOf l) rs).length = rs.length := by unfold chainE; rw [List.length_map, List.length_range]
   have h4 : (joinJ [] ((cutV l a n).map deadN)).length ≤ l.length := by
    rw [gone_is (well_store h1), List.length_map]
    exact List.length_filter_le _ _
   show (joinJ _ _).length ≤ _
   omega
theorem EditInserts_in {l : List Node} {d : Dot} {a2 : Int} {rs : List Int} {R : List Node} {e : Int} (h : replR l d a2 0 rs = (R, e)) (hl : l.length ≤ 40) (hr : rs.length ≤ 20) : redpencillaw15_inserts.f 1000 l d.f0 d.f1 a2 rs R e = some true := by
 have h2 := repl_le (l := l) (d := d) (a := a2) (n := 0) (rs := rs) (by omega)
 rw [h] at h2
 unfold redpencillaw15_inserts.f edit_Insert.f edit_Replace.f
 rw [if_pos ⟨by omega, by omega⟩, Option.bind_some, Option.bind_some]
 rw [show (⟨d.f0, d.f1⟩ : Dot) = d from rfl, h]
 dsimp only at h2 ⊢
 rw [jsame_is R (by omega) (by omega), Option.bind_some, if_pos rfl]
 simp
set_option maxHeartbeats 4000000 in
set_option maxRecDepth 100000 in
theorem EditInserts.walk (A0 : Option Addr) (c0 : Nat) (l0 : List Node) (w : World) (hr0 : Kd.C k53 w A0 l0.length l0) (hc0 : l0.length ≤ c0) (hi0 : ∀ x ∈ l0, runeIn x.f3) (d : Dot) (a2 : Int) (w2 : (Lit.int .i64 a2).wf = true) (A4 : Option Addr) (c4 : Nat) (l4 : List Int) (hr4 : Kd.C (Kd.int .i32) w A4 l4.length l4) (hc4 : l4.length ≤ c4) :
  Calls Tryz.prog 3 #[.slice A0 l0.length c0, .agg #[.int .i64 d.f0, .int .i64 d.f1], .int .i64 a2, .slice A4 l4.length c4] w fun e w' => e = .returned (.bool true) ∧ Below w.heap.size w w' := by
 have HR := Aside0.mk hr0
 have HC := Aside0.mk hc0
 have HR4 := Aside0.mk hr4
 have HC4 := Aside0.mk hc4
 obtain ⟨n, Hn⟩ : ∃ n, Aside0 (l0.length = n) := ⟨_, ⟨rfl⟩⟩
 obtain ⟨m, Hm⟩ : ∃ n, Aside0 (l4.length = n) := ⟨_, ⟨rfl⟩⟩
 have HDC := Aside0.mk (blk_new w (dotC d))
 have HB := Aside0.mk (below_alloc (Below.refl _ w) (dotC d))
 have hu2 := Tryz.underlying25
 rw [Hn.out, Hm.out]
 clear hr0 hc0 hr4 hc4 hi0
 by_cases h40 : n ≤ 40 ∧ m ≤ 20
 rotate_left
 ·
  by_cases h1 : n ≤ 40
  ·
   have p1 : ¬ (n : Int) > 40 := by omega
   have p2 : (m : Int) > 20 := by omega
   clear h40 h1
   go_enter Tryz.func3, Tryz.ntmps3
   go_wp2_with fail
   refine (known15_call _).mono ?_
   rintro e W3 ⟨rfl, hd⟩
   have HB := Aside0.mk (below_more HB.out hd)
   clear hd
   go_wp2
   go_ret
   exact ⟨rfl, HB.out⟩
  ·
   have p1 : (n : Int) > 40 := by omega
   clear h40 h1
   go_enter Tryz.func3, Tryz.ntmps3
   go_wp2_with fail
   refine (known15_call _).mono ?_
   rintro e W3 ⟨rfl, hd⟩
   have HB := Aside0.mk (below_more HB.out hd)
   clear hd
   go_wp2
   go_ret
   exact ⟨rfl, HB.out⟩
 have HL : Aside0 (l0.length ≤ 40 ∧ l4.length ≤ 20) := ⟨by rw [Hn.out, Hm.out]; exact h40⟩
 have p1 : ¬ (n : Int) > 40 := by omega
 have p2 : ¬ (m : Int) > 20 := by omega
 clear h40
 obtain ⟨R1, e1, H1⟩ : ∃ r e, Aside0 (replR l0 d a2 0 l4 = (r, e)) := ⟨_, _, ⟨rfl⟩⟩
 go_enter Tryz.func3, Tryz.ntmps3
 go_wp2_with fail
 have hcall := redpencilref14_Copy.calls A0 c0 l0 l0 (w.alloc (dotC d)) (Kd.C_below HR.out HB.out) HC.out (by unfold redpencilref14_Copy.f; rw [if_pos (by have := HL.out; omega)])
 rw [Hn.out] at hcall
 refine hcall.mono ?_
 clear hcall
 rintro e V1 ⟨v1, rfl, hr1, hb⟩
 obtain ⟨A1, c1, rfl⟩ := RN.slice hr1
 rw [Hn.out] at hr1 ⊢
 have HO1 : Aside0 (n ≤ c1 ∧ Kd.C k53 V1 A1 n l0) := ⟨(RN.C hr1).2⟩
 have HDC := Aside0.mk (blk_keep HDC.out hb)
 have HB := Aside0.mk (below_more HB.out hb)
 clear hr1 hb
 have HRN : Aside0 (Kd.C (Kd.int .i32) V1 A4 m l4) := ⟨by have := Kd.C_below HR4.out HB.out; rwa [Hm.out] at this⟩
 have HN6 : Aside0 (m ≤ 1000000) := ⟨by have h1 := Hm.out; have h2 := HL.out; omega⟩
 go_upto_region 4 with (at_builtin; refine app_rowI rfl (.tmp 26) rfl A4 l4 m c4 Hm.out rfl HRN.out HN6.out ?_; intro v5 W5 hr5 hb5; obtain ⟨A5, c5, rfl⟩ := Kd.R_slice hr5; rw [Hm.out] at hr5 ⊢)
 have HO5 : Aside0 (m ≤ c5 ∧ Kd.C (Kd.int .i32) W5 A5 m l4) := ⟨by have := (Kd.R_reads' hr5).2; rwa [Hm.out] at this⟩
 have HO1 : Aside0 (n ≤ c1 ∧ Kd.C k53 W5 A1 n l0) := ⟨HO1.out.1, Kd.C_below HO1.out.2 hb5⟩
 have HDC := Aside0.mk (blk_keep HDC.out hb5)
 have HB := Aside0.mk (below_more HB.out hb5)
 clear hr5 hb5 HRN HN6
 obtain ⟨x0, x1⟩ := dot_cells HDC.out
 go_wp2_with fail
 clear x0 x1
 have hcall := redpencilref15_Replace.calls A0 c0 l0 d.f0 d.f1 a2 0 A4 c4 l4 R1 e1 W5 (Kd.C_below HR.out HB.out) HC.out (Kd.C_below HR4.out HB.out) HC4.out (by unfold redpencilref15_Replace.f; rw [if_pos (by have := HL.out; omega), repl_is (by have := HL.out; omega)]; exact congrArg some H1.out)
 rw [Hn.out, Hm.out] at hcall
 refine hcall.mono ?_
 clear hcall
 rintro e V6 ⟨v6, rfl, hr6, hb⟩
 obtain ⟨A6, c6, rfl⟩ := RN.slice hr6
 have HO6 : Aside0 (R1.length ≤ c6 ∧ Kd.C k53 V6 A6 R1.length R1) := ⟨(RN.C hr6).2⟩
 have HO1 : Aside0 (n ≤ c1 ∧ Kd.C k53 V6 A1 n l0) := ⟨HO1.out.1, Kd.C_below HO1.out.2 hb⟩
 have HO5 : Aside0 (m ≤ c5 ∧ Kd.C (Kd.int .i32) V6 A5 m l4) := ⟨HO5.out.1, Kd.C_below HO5.out.2 hb⟩
 have HDC := Aside0.mk (blk_keep HDC.out hb)
 have HB := Aside0.mk (below_more HB.out hb)
 clear hr6 hb
 obtain ⟨x0, x1⟩ := dot_cells HDC.out
 go_wp2_with fail
 clear x0 x1
 have hcall := redpencillaw15_inserts.calls 1000 A0 c0 l0 d.f0 d.f1 a2 A4 c4 l4 A6 c6 R1 e1 true V6 (Kd.C_below HR.out HB.out) HC.out (Kd.C_below HR4.out HB.out) HC4.out HO6.out.2 HO6.out.1 (EditInserts_in H1.out HL.out.1 HL.out.2)
 rw [Hn.out, Hm.out] at hcall
 refine hcall.mono ?_
 clear hcall
 rintro e V7 ⟨rfl, hb⟩
 have HO1 : Aside0 (n ≤ c1 ∧ Kd.C k53 V7 A1 n l0) := ⟨HO1.out.1, Kd.C_below HO1.out.2 hb⟩
 have HO5 : Aside0 (m ≤ c5 ∧ Kd.C (Kd.int .i32) V7 A5 m l4) := ⟨HO5.out.1, Kd.C_below HO5.out.2 hb⟩
 have HDC := Aside0.mk (blk_keep HDC.out hb)
 have HB := Aside0.mk (below_more HB.out hb)
 clear hb HO6
 obtain ⟨x0, x1⟩ := dot_cells HDC.out
 go_wp2_with fail
 clear x0 x1
 have hcall := edit_Insert.calls A0 c0 l0 d.f0 d.f1 a2 A4 c4 l4 R1 e1 V7 (Kd.C_below HR.out HB.out) HC.out (Kd.C_below HR4.out HB.out) HC4.out (by unfold edit_Insert.f edit_Replace.f; rw [if_pos (by have := HL.out; omega), Option.bind_some]; exact congrArg some H1.out)
 rw [Hn.out, Hm.out] at hcall
 refine hcall.mono ?_
 clear hcall
 rintro e V8 ⟨v8, rfl, hr8, hb⟩
 have HR8 := Aside0.mk hr8
 have HB8 := Aside0.mk hb
 clear hr8 hb
 obtain ⟨rst, Hst⟩ : ∃ r, Aside0 (redpencilref14_Stain.f 1000 R1 = some r) := by
  have h2 := repl_le (l := l0) (d := d) (a := a2) (n := 0) (rs := l4) (by have := HL.out; omega)
  rw [H1.out] at h2
  obtain ⟨r, hr⟩ := stain_is R1 (by have := HL.out; dsimp only at h2; omega) (k := 1000) (by have := HL.out; dsimp only at h2; omega)
  exact ⟨r, ⟨hr⟩⟩
 go_wp2_with fail
 refine (redpencilref14_Stain.calls 1000 (fun _ => True) v8 R1 rst V7 V8 HB8.out HR8.out Hst.out).mono ?_
 rintro e V9 ⟨rfl, _, hb, _⟩
 have HO1 : Aside0 (n ≤ c1 ∧ Kd.C k53 V9 A1 n l0) := ⟨HO1.out.1, Kd.C_below HO1.out.2 hb⟩
 have HO5 : Aside0 (m ≤ c5 ∧ Kd.C (Kd.int .i32) V9 A5 m l4) := ⟨HO5.out.1, Kd.C_below HO5.out.2 hb⟩
 have HB := Aside0.mk (below_more HB.out hb)
 clear hb HB8 HR8
 go_wp2_with fail
 have hcall := redpencillaw15_kept.calls 1000 A0 c0 l0 A1 c1 l0 A4 c4 l4 A5 c5 l4 true V9 (Kd.C_below HR.out HB.out) HC.out (by rw [Hn.out]; exact HO1.out.2) (by rw [Hn.out]; exact HO1.out.1) (Kd.C_below HR4.out HB.out) HC4.out (by rw [Hm.out]; exact HO5.out.2) (by rw [Hm.out]; exact HO5.out.1) (kept_is l0 l4 (by have := HL.out; omega) (by have := HL.out; omega) (by have := HL.out; omega) (by have := HL.out; omega))
 rw [Hn.out, Hm.out] at hcall
 refine hcall.mono ?_
 clear hcall
 rintro e V10 ⟨rfl, hb⟩
 have HB := Aside0.mk (below_more HB.out hb.below)
 clear hb
 go_wp2_with fail
 refine (known15_call _).mono ?_
 rintro e V11 ⟨rfl, hd⟩
 have HB := Aside0.mk (below_more HB.out hd)
 clear hd
 go_wp2
 go_ret
 exact ⟨rfl, HB.out⟩
end Go.Proofs.YtmbndijbpgobeaaGreat.PWalk
end
