/-
  The law WalkPaths: the walk and the row. Part 10 of 12.
-/
import Derived.Test.YtjlpaagnajmogaaGreatPI
section
namespace Go.Proofs.YtjlpaagnajmogaaGreat.PWalk
open Go.RowKit Go.Proofs.YtjlpaagnajmogaaGreatW.PrintWords Go.Proofs.YtjlpaagnajmogaaGreatW.PrintLast Go.Proofs.YtjlpaagnajmogaaGreatW.PrintMore
set_option linter.unusedVariables false
set_option linter.unusedSimpArgs false
section
open Go.Shelf
attribute [local go_sem] Oper.semAt_some
def runeInB (r : Int) : Bool := decide (-9223372036854775808 ≤ r ∧ r ≤ 9223372036854775807)
def redpencilref10_Valid.f (k : Nat) (l0 : List Node) : Option Bool := if l0.length ≤ 1000000 ∧ (l0.all fun x => runeInB x.f3) = true then some (storeOk l0) else none
theorem rv_less (a b : Dot) : redpencilref04_Less.f a.f0 a.f1 b.f0 b.f1 = some (dotLt a b) := by
 unfold redpencilref04_Less.f dotLt
 by_cases h : a.f1 = b.f1
 ·
  rw [if_pos h]; simp [h]
 ·
  rw [if_neg h]; simp [h]
theorem rv_dot (a b : Int) : redpencilref04_Valid.f a b = some (dotOk ⟨a, b⟩) := by
 unfold redpencilref04_Valid.f dotOk
 by_cases h0 : a > 0 <;> by_cases h1 : a ≤ 64 <;> by_cases h2 : b > 0 <;> by_cases h3 : b ≤ 4294967295 <;> simp [h0, h1, h2, h3] <;> (try omega)
theorem rv_root (a b : Int) : redpencilref04_Root.f a b = some (dotRoot ⟨a, b⟩) := by
 unfold redpencilref04_Root.f dotRoot
 by_cases h0 : a = 0 <;> by_cases h1 : b = 0 <;> simp [h0, h1]
theorem rv_rune (r : Int) (h : runeInB r = true) : redpencilref02_Valid.f r = some (runeOk r) := by
 unfold redpencilref02_Valid.f redpencilref02_scalar.f runeOk
 have hw : wrap64 r = r := by unfold wrap64; unfold runeInB at h; rw [decide_eq_true_eq] at h; omega
 rw [hw]
 by_cases h0 : r = 0
 ·
  simp [h0]
 ·
  by_cases h1 : r ≥ 0 <;> by_cases h2 : r ≤ 1114111 <;> by_cases h3 : r < 55296 <;> by_cases h4 : r > 57343 <;> simp [h0, h1, h2, h3, h4] <;> omega
theorem rv_node (x : Node) (h : runeInB x.f3 = true) : redpencilref09_Valid.f x.f0.f0 x.f0.f1 x.f1.f0 x.f1.f1 x.f2 x.f3 = some (nodeOk x) := by
 unfold redpencilref09_Valid.f nodeOk
 simp only [rv_dot, rv_root, rv_rune _ h, Option.bind_some]
 have e : ((x.f0.f0 == x.f1.f0 && (x.f0.f1 == x.f1.f1)) = true) ↔ ¬ x.f1 ≠ x.f0 := by
  rw [Ne, Dot.ext_iff']; simp; omega
 simp only [e]
 by_cases h1 : dotOk x.f0 = true
 ·
  by_cases h4 : x.f1 ≠ x.f0
  ·
   by_cases h5 : x.f2 > 0
   ·
    have h5' : 1 ≤ x.f2 := by omega
    by_cases h6 : x.f2 ≤ 4611686018427387904
    ·
     cases h2 : dotRoot x.f1 <;> cases h3 : dotOk x.f1 <;> cases h8 : runeOk x.f3 <;> by_cases h7 : x.f3 = 0 <;> simp [h1, h2, h3, h4, h5, h5', h6, h7, h8]
    ·
     cases h2 : dotRoot x.f1 <;> cases h3 : dotOk x.f1 <;> simp [h1, h2, h3, h4, h5, h6]
   ·
    have h5' : ¬ 1 ≤ x.f2 := by omega
    cases h2 : dotRoot x.f1 <;> cases h3 : dotOk x.f1 <;> simp [h1, h2, h3, h4, h5, h5']
  ·
   cases h2 : dotRoot x.f1 <;> cases h3 : dotOk x.f1 <;> simp [h1, h2, h3, h4]
 ·
  simp [h1]
theorem incB_append (l : List Dot) (a b : Dot) : incB (l ++ [a, b]) = (incB (l ++ [a]) && dotLt a b) := by
 induction l with
 | nil => simp [incB]
 | cons c l ih =>
  cases l with
  | nil => simp [incB]
  | cons e l =>
   simp only [List.cons_append] at ih ⊢
   rw [incB, incB, ih, Bool.and_assoc]
theorem incB_left (l m : List Dot) (h : incB (l ++ m) = true) : incB l = true := by
 induction l with
 | nil => rfl
 | cons c l ih =>
  cases l with
  | nil => rfl
  | cons e l =>
   simp only [List.cons_append] at ih h
   rw [incB, Bool.and_eq_true] at h ⊢
   exact ⟨h.1, ih h.2⟩
theorem storeOk_append (l m : List Node) (h : storeOk (l ++ m) = true) : storeOk l = true := by
 unfold storeOk at h ⊢
 rw [Bool.and_eq_true, List.map_append, List.all_append, Bool.and_eq_true] at h
 rw [Bool.and_eq_true]
 exact ⟨h.1.1, incB_left _ _ h.2⟩
theorem storeOk_take {l : List Node} {i : Nat} (h : storeOk (l.take i) = false) : storeOk l = false := by
 rw [Bool.eq_false_iff] at h ⊢
 intro hl
 exact h (storeOk_append (l.take i) (l.drop i) (by rwa [List.take_append_drop]))
theorem storeOk_first {l : List Node} {x : Node} (h : l[0]? = some x) : storeOk (l.take 1) = nodeOk x := by
 cases l with
 | nil => cases h
 | cons y l => cases h; simp [storeOk, incB]
theorem storeOk_next {l : List Node} {j : Nat} {y x : Node} (hy : l[j]? = some y) (hx : l[j + 1]? = some x) : storeOk (l.take (j + 2)) = (storeOk (l.take (j + 1)) && (nodeOk x && dotLt y.f0 x.f0)) := by
 have h1 : l.take (j + 1) = l.take j ++ [y] := by rw [List.take_succ_eq_append_getElem (List.getElem?_eq_some_iff.1 hy).1, (List.getElem?_eq_some_iff.1 hy).2]
 have h2 : l.take (j + 2) = l.take j ++ [y] ++ [x] := by rw [← h1, List.take_succ_eq_append_getElem (List.getElem?_eq_some_iff.1 hx).1, (List.getElem?_eq_some_iff.1 hx).2]
 rw [h2, h1]
 unfold storeOk
 simp only [List.all_append, List.map_append, List.map_cons, List.map_nil, List.append_assoc, List.cons_append, List.nil_append, incB_append]
 simp only [List.all_cons, List.all_nil, Bool.and_true]
 cases (List.take j l).all nodeOk <;> cases nodeOk y <;> cases nodeOk x <;> cases incB (List.map (·.f0) (List.take j l) ++ [y.f0]) <;> simp
def rvAInv (W0 : World) (ad : Addr) (n c0 k j : Nat) (x y : Node) (b : Bool) (z1 z2 z4 z5 z6 z7 z8 z9 z10 z11 z12 z13 z14 z15 z16 z17 z18 z19 z20 z21 z22 z23 z24 z25 z26 z27 z28 z29 z30 z31 z32 z33 z34 : Value) (L : Array Bool) (ac : Act) (V : World) : Prop := ∃ (l0 l1 l2 l3 l4 l5 l6 l7 l8 l9 l10 l11 l12 l13 l14 l15 l16 l17 l18 l19 l20 l21 l22 l23 l24 : Bool), L = #[l0, l1, l2, l3, l4, l5, l6, l7, l8, l9, l10, l11, l12, l13, l14, l15, l16, l17, l18, l19, l20, l21, l22, l23, l24] ∧ ac = { tmps := #[.slice (some ad) n c0, z1, z2, .int .i64 (k : Int), z4, z5, z6, z7, z8, z9, selv l0 (.slice (some ad) n c0) (z10), selv l1 (.int .i64 (k : Int)) (z11), selv l2 (.pointer (some (ad.add (k * 6)))) (z12), selv l3 (vNode x) (z13), selv l4 (.bool false) (z14), selv l5 (.bool true) (z15), selv l6 (.bool true) (z16), selv l7 (undef) (z17), selv l8 (undef) (z18), selv l9 (undef) (z19), selv l10 (undef) (z20), selv l11 (undef) (z21), selv l12 (undef) (z22), selv l13 (undef) (z23), selv l14 (undef) (z24), selv l15 (undef) (z25), selv l16 (undef) (z26), selv l17 (undef) (z27), selv l18 (undef) (z28), selv l19 (undef) (z29), selv l20 (undef) (z30), selv l21 (undef) (z31), selv l22 (undef) (z32), selv l23 (undef) (z33), selv l24 (.bool true) (z34)], defers := [] } ∧ Aside0 (Below W0.heap.size W0 V)
def rvBInv (W0 : World) (ad : Addr) (n c0 k j : Nat) (x y : Node) (b : Bool) (z1 z2 z4 z5 z6 z7 z8 z9 z10 z11 z12 z13 z14 z15 z16 z17 z18 z19 z20 z21 z22 z23 z24 z25 z26 z27 z28 z29 z30 z31 z32 z33 z34 : Value) (L : Array Bool) (ac : Act) (V : World) : Prop := ∃ (l0 l1 l2 l3 l4 l5 l6 l7 l8 l9 l10 l11 l12 l13 l14 l15 l16 l17 l18 l19 l20 l21 l22 l23 l24 : Bool), L = #[l0, l1, l2, l3, l4, l5, l6, l7, l8, l9, l10, l11, l12, l13, l14, l15, l16, l17, l18, l19, l20, l21, l22, l23, l24] ∧ ac = { tmps := #[.slice (some ad) n c0, z1, z2, .int .i64 0, z4, z5, z6, z7, z8, z9, selv l0 (.slice (some ad) n c0) (z10), selv l1 (.int .i64 0) (z11), selv l2 (.pointer (some ad)) (z12), selv l3 (vNode x) (z13), selv l4 (.bool true) (z14), selv l5 (.bool false) (z15), selv l6 (.bool false) (z16), selv l7 (.int .i64 0) (z17), selv l8 (.bool false) (z18), selv l9 (.bool false) (z19), selv l10 (undef) (z20), selv l11 (undef) (z21), selv l12 (undef) (z22), selv l13 (undef) (z23), selv l14 (undef) (z24), selv l15 (undef) (z25), selv l16 (undef) (z26), selv l17 (undef) (z27), selv l18 (undef) (z28), selv l19 (undef) (z29), selv l20 (undef) (z30), selv l21 (undef) (z31), selv l22 (undef) (z32), selv l23 (.bool false) (z33), selv l24 (.bool false) (z34)], defers := [] } ∧ Aside0 (Below W0.heap.size W0 V)
def rvCInv (W0 : World) (ad : Addr) (n c0 k j : Nat) (x y : Node) (b : Bool) (z1 z2 z4 z5 z6 z7 z8 z9 z10 z11 z12 z13 z14 z15 z16 z17 z18 z19 z20 z21 z22 z23 z24 z25 z26 z27 z28 z29 z30 z31 z32 z33 z34 : Value) (L : Array Bool) (ac : Act) (V : World) : Prop := ∃ (l0 l1 l2 l3 l4 l5 l6 l7 l8 l9 l10 l11 l12 l13 l14 l15 l16 l17 l18 l19 l20 l21 l22 l23 l24 : Bool), L = #[l0, l1, l2, l3, l4, l5, l6, l7, l8, l9, l10, l11, l12, l13, l14, l15, l16, l17, l18, l19, l20, l21, l22, l23, l24] ∧ ac = { tmps := #[.slice (some ad) n c0, z1, z2, .int .i64 (k : Int), z4, z5, z6, z7, z8, z9, selv l0 (.slice (some ad) n c0) (z10), selv l1 (.int .i64 (k : Int)) (z11), selv l2 (.pointer (some (ad.add (k * 6)))) (z12), selv l3 (vNode x) (z13), selv l4 (.bool true) (z14), selv l5 (.bool false) (z15), selv l6 (.bool false) (z16), selv l7 (.int .i64 (k : Int)) (z17), selv l8 (.bool true) (z18), selv l9 (.bool true) (z19), selv l10 (.slice (some ad) n c0) (z20), selv l11 (.int .i64 (k : Int)) (z21), selv l12 (.int .i64 ((k : Int) - 1)) (z22), selv l13 (.pointer (some (ad.add (j * 6)))) (z23), selv l14 (.pointer (some (ad.add (j * 6)))) (z24), selv l15 (vDot y.f0) (z25), selv l16 (.slice (some ad) n c0) (z26), selv l17 (.int .i64 (k : Int)) (z27), selv l18 (.pointer (some (ad.add (k * 6)))) (z28), selv l19 (.pointer (some (ad.add (k * 6)))) (z29), selv l20 (vDot x.f0) (z30), selv l21 (.bool b) (z31), selv l22 (.bool (!b)) (z32), selv l23 (.bool (!b)) (z33), selv l24 (.bool (!b)) (z34)], defers := [] } ∧ Aside0 (Below W0.heap.size W0 V)
set_option maxHeartbeats 4000000 in
set_option maxRecDepth 100000 in
theorem redpencilref10_Valid.calls (k : Nat) (A0 : Option Addr) (c0 : Nat) (l0 : List Node) (r : Bool) (w : World) (hr0 : Kd.C k35 w A0 l0.length l0) (hc0 : l0.length ≤ c0) (h : redpencilref10_Valid.f k l0 = some r) :
  Calls Tryz.prog 14 #[.slice A0 l0.length c0] w fun e w' => e = .returned (.bool r) ∧ Below w.heap.size w w' := by
 unfold redpencilref10_Valid.f at h
 by_cases hl : l0.length ≤ 1000000 ∧ (l0.all fun x => runeInB x.f3) = true
 rotate_left
 ·
  rw [if_neg hl] at h; cases h
 rw [if_pos hl] at h
 have HRES := Aside0.mk (Option.some.inj h)
 have HR := Aside0.mk hr0
 have HRN : Aside0 (∀ x ∈ l0, runeInB x.f3 = true) := ⟨List.all_eq_true.1 hl.2⟩
 obtain ⟨n, Hn⟩ : ∃ n, Aside0 (l0.length = n) := ⟨_, ⟨rfl⟩⟩
 have hn4 : n ≤ 1000000 := by rw [← Hn.out]; exact hl.1
 rw [Hn.out]
 clear hl h hr0 hc0 k
 go_enter Tryz.func14, Tryz.ntmps14
 go_wp2
 go_loopw [3] (fun i wr => ∃ k : Nat, k ≤ n ∧ i = .int .i64 k ∧ Aside0 (storeOk (l0.take k) = true) ∧ Aside0 (Below w.heap.size w wr)) (fun i _ => n - (intOf i).toNat)
 case atStart => exact ⟨0, Nat.zero_le _, rfl, ⟨rfl⟩, ⟨Below.refl _ _⟩⟩
 case round =>
  obtain ⟨k, hk, rfl, HOK, HB⟩ := hrel
  by_cases hlt : k < n
  ·
   have hltb : decide ((k : Int) < (n : Int)) = true := decide_eq_true (by omega)
   obtain ⟨x, Hx⟩ : ∃ x, Aside0 (l0[k]? = some x) := ⟨_, ⟨List.getElem?_eq_getElem (by rw [Hn.out]; exact hlt)⟩⟩
   obtain ⟨ad, e, g0, g1, g2, g3, g4, g5⟩ := node_at HR.out (below_drew1 HB.out) k x Hx.out
   subst e
   have HG := Aside0.mk (And.intro g0 (And.intro g1 (And.intro g2 (And.intro g3 (And.intro g4 g5)))))
   have HKN : Aside0 (k < n ∧ n ≤ 1000000) := ⟨hlt, hn4⟩
   have HNV : Aside0 (redpencilref09_Valid.f x.f0.f0 x.f0.f1 x.f1.f0 x.f1.f1 x.f2 x.f3 = some (nodeOk x)) := ⟨rv_node x (HRN.out x (List.mem_of_getElem? Hx.out))⟩
   have HB9 := Aside0.mk (below_drew1 HB.out)
   clear g0 g1 g2 g3 g4 g5
   obtain ⟨v, Hv⟩ : ∃ v, Aside0 (nodeOk x = v) := ⟨_, ⟨rfl⟩⟩
   cases v with
   | false =>
    have HEND : Aside0 (r = false) := ⟨by
     rw [← HRES.out]
     cases k with
     | zero => exact storeOk_take (i := 1) ((storeOk_first Hx.out).trans Hv.out)
     | succ j =>
      obtain ⟨y, hy⟩ : ∃ y, l0[j]? = some y := ⟨_, List.getElem?_eq_getElem (by rw [Hn.out]; omega)⟩
      refine storeOk_take (i := j + 2) ?_
      rw [storeOk_next hy Hx.out, Hv.out]; simp⟩
    go_wp2
    refine AnyOrder.wp_region (by kernel_rfl) (rvAInv wr.drew ad n c0 k k x x false _ _ _ _ _ _ _ _ _ _ _ _ _ _ _ _ _ _ _ _ _ _ _ _ _ _ _ _ _ _ _ _ _) ⟨false, false, false, false, false, false, false, false, false, false, false, false, false, false, false, false, false, false, false, false, false, false, false, false, false, rfl, rfl, ⟨Below.refl _ _⟩⟩ ?step ?last
    case step =>
     rintro L ac V i ⟨l0, l1, l2, l3, l4, l5, l6, l7, l8, l9, l10, l11, l12, l13, l14, l15, l16, l17, l18, l19, l20, l21, l22, l23, l24, rfl, rfl, HF⟩ hi K hK
     have h1 : i = 0 ∨ i = 1 ∨ i = 2 ∨ i = 3 ∨ i = 4 ∨ i = 5 ∨ i = 6 ∨ i = 7 ∨ i = 8 ∨ i = 9 ∨ i = 10 ∨ i = 11 ∨ i = 12 ∨ i = 13 ∨ i = 14 ∨ i = 15 ∨ i = 16 ∨ i = 17 ∨ i = 18 ∨ i = 19 ∨ i = 20 ∨ i = 21 ∨ i = 22 ∨ i = 23 ∨ i = 24 := by
      have h1 := (AnyOrder.mem_ready hi).1
      clear hi hK
      change i < 25 at h1
      omega
     rcases h1 with rfl | rfl | rfl | rfl | rfl | rfl | rfl | rfl | rfl | rfl | rfl | rfl | rfl | rfl | rfl | rfl | rfl | rfl | rfl | rfl | rfl | rfl | rfl | rfl | rfl
     ·
      obtain rfl : l0 = false := (AnyOrder.mem_ready hi).2.1
      clear hi
      refine AnyOrder.wpOp_go rfl (by rfl) ?_
      go_wp2_with fail
      exact ⟨true, l1, l2, l3, l4, l5, l6, l7, l8, l9, l10, l11, l12, l13, l14, l15, l16, l17, l18, l19, l20, l21, l22, l23, l24, rfl, rfl, HF⟩
     ·
      obtain rfl : l1 = false := (AnyOrder.mem_ready hi).2.1
      clear hi
      refine AnyOrder.wpOp_go rfl (by rfl) ?_
      go_wp2_with fail
      exact ⟨l0, true, l2, l3, l4, l5, l6, l7, l8, l9, l10, l11, l12, l13, l14, l15, l16, l17, l18, l19, l20, l21, l22, l23, l24, rfl, rfl, HF⟩
     ·
      obtain rfl : l2 = false := (AnyOrder.mem_ready hi).2.1
      obtain rfl : l0 = true := AnyOrder.dep (q := 0) hi rfl rfl rfl
      obtain rfl : l1 = true := AnyOrder.dep (q := 1) hi rfl rfl rfl
      clear hi
      simp only [sel_true, selv_true] at hK ⊢
      have hkk := HKN.out.1
      have hkl2 := HKN.out.2
      refine AnyOrder.wpOp_go rfl (by rfl) ?_
      go_wp2_with fail
      exact ⟨true, true, true, l3, l4, l5, l6, l7, l8, l9, l10, l11, l12, l13, l14, l15, l16, l17, l18, l19, l20, l21, l22, l23, l24, rfl, rfl, HF⟩
     ·
      obtain rfl : l3 = false := (AnyOrder.mem_ready hi).2.1
      obtain rfl : l2 = true := AnyOrder.dep (q := 0) hi rfl rfl rfl
      clear hi
      simp only [sel_true, selv_true] at hK ⊢
      obtain ⟨g0, g1, g2, g3, g4, g5⟩ := HG.out
      have g0 := pw_cell_below HF.out g0
      have g1 := pw_cell_below HF.out g1
      have g2 := pw_cell_below HF.out g2
      have g3 := pw_cell_below HF.out g3
      have g4 := pw_cell_below HF.out g4
      have g5 := pw_cell_below HF.out g5
      refine AnyOrder.wpOp_go rfl (by rfl) ?_
      go_wp2_with fail
      exact ⟨l0, l1, true, true, l4, l5, l6, l7, l8, l9, l10, l11, l12, l13, l14, l15, l16, l17, l18, l19, l20, l21, l22, l23, l24, rfl, rfl, HF⟩
     ·
      obtain rfl : l4 = false := (AnyOrder.mem_ready hi).2.1
      obtain rfl : l3 = true := AnyOrder.dep (q := 0) hi rfl rfl rfl
      clear hi
      simp only [sel_true, selv_true] at hK ⊢
      refine AnyOrder.wpOp_go rfl (by rfl) ?_
      go_wp2_with fail
      refine (redpencilref09_Valid.calls _ _ _ _ _ _ false V (by rw [HNV.out, Hv.out])).mono ?_
      rintro e V' ⟨rfl, hb⟩
      exact hK _ _ ⟨l0, l1, l2, true, true, l5, l6, l7, l8, l9, l10, l11, l12, l13, l14, l15, l16, l17, l18, l19, l20, l21, l22, l23, l24, rfl, rfl, ⟨below_more HF.out hb⟩⟩
     ·
      obtain rfl : l5 = false := (AnyOrder.mem_ready hi).2.1
      obtain rfl : l4 = true := AnyOrder.dep (q := 0) hi rfl rfl rfl
      clear hi
      simp only [sel_true, selv_true] at hK ⊢
      refine AnyOrder.wpOp_go rfl (by rfl) ?_
      go_wp2_with fail
      exact ⟨l0, l1, l2, l3, true, true, l6, l7, l8, l9, l10, l11, l12, l13, l14, l15, l16, l17, l18, l19, l20, l21, l22, l23, l24, rfl, rfl, HF⟩
     ·
      obtain rfl : l6 = false := (AnyOrder.mem_ready hi).2.1
      obtain rfl : l5 = true := AnyOrder.dep (q := 0) hi rfl rfl rfl
      obtain rfl : l4 = true := AnyOrder.dep (q := 1) hi rfl rfl rfl
      clear hi
      simp only [sel_true, selv_true] at hK ⊢
      refine AnyOrder.wpOp_go rfl (by rfl) ?_
      go_wp2_with fail
      exact ⟨l0, l1, l2, l3, true, true, true, l7, l8, l9, l10, l11, l12, l13, l14, l15, l16, l17, l18, l19, l20, l21, l22, l23, l24, rfl, rfl, HF⟩
     ·
      obtain rfl : l7 = false := (AnyOrder.mem_ready hi).2.1
      obtain rfl : l6 = true := AnyOrder.dep (q := 0) hi rfl rfl rfl
      clear hi
      simp only [sel_true, selv_true] at hK ⊢
      refine AnyOrder.wpOp_out rfl (by rfl) ?_
      exact hK _ _ ⟨l0, l1, l2, l3, l4, l5, true, true, l8, l9, l10, l11, l12, l13, l14, l15, l16, l17, l18, l19, l20, l21, l22, l23, l24, rfl, rfl, HF⟩
     ·
      obtain rfl : l8 = false := (AnyOrder.mem_ready hi).2.1
      obtain rfl : l7 = true := AnyOrder.dep (q := 0) hi rfl rfl rfl
      obtain rfl : l6 = true := AnyOrder.dep (q := 1) hi rfl rfl rfl
      clear hi
      simp only [sel_true, selv_true] at hK ⊢
      refine AnyOrder.wpOp_out rfl (by rfl) ?_
      exact hK _ _ ⟨l0, l1, l2, l3, l4, l5, true, true, true, l9, l10, l11, l12, l13, l14, l15, l16, l17, l18, l19, l20, l21, l22, l23, l24, rfl, rfl, HF⟩
     ·
      obtain rfl : l9 = false := (AnyOrder.mem_ready hi).2.1
      obtain rfl : l8 = true := AnyOrder.dep (q := 0) hi rfl rfl rfl
      obtain rfl : l6 = true := AnyOrder.dep (q := 1) hi rfl rfl rfl
      clear hi
      simp only [sel_true, selv_true] at hK ⊢
      refine AnyOrder.wpOp_out rfl (by rfl) ?_
      exact hK _ _ ⟨l0, l1, l2, l3, l4, l5, true, l7, true, true, l10, l11, l12, l13, l14, l15, l16, l17, l18, l19, l20, l21, l22, l23, l24, rfl, rfl, HF⟩
     ·
      obtain rfl : l10 = false := (AnyOrder.mem_ready hi).2.1
      obtain rfl : l9 = true := AnyOrder.dep (q := 0) hi rfl rfl rfl
      clear hi
      simp only [sel_true, selv_true] at hK ⊢
      refine AnyOrder.wpOp_out rfl (by rfl) ?_
      exact hK _ _ ⟨l0, l1, l2, l3, l4, l5, l6, l7, l8, true, true, l11, l12, l13, l14, l15, l16, l17, l18, l19, l20, l21, l22, l23, l24, rfl, rfl, HF⟩
     ·
      obtain rfl : l11 = false := (AnyOrder.mem_ready hi).2.1
      obtain rfl : l9 = true := AnyOrder.dep (q := 0) hi rfl rfl rfl
      clear hi
      simp only [sel_true, selv_true] at hK ⊢
      refine AnyOrder.wpOp_out rfl (by rfl) ?_
      exact hK _ _ ⟨l0, l1, l2, l3, l4, l5, l6, l7, l8, true, l10, true, l12, l13, l14, l15, l16, l17, l18, l19, l20, l21, l22, l23, l24, rfl, rfl, HF⟩
     ·
      obtain rfl : l12 = false := (AnyOrder.mem_ready hi).2.1
      obtain rfl : l11 = true := AnyOrder.dep (q := 0) hi rfl rfl rfl
      obtain rfl : l9 = true := AnyOrder.dep (q := 1) hi rfl rfl rfl
      clear hi
      simp only [sel_true, selv_true] at hK ⊢
      refine AnyOrder.wpOp_out rfl (by rfl) ?_
      exact hK _ _ ⟨l0, l1, l2, l3, l4, l5, l6, l7, l8, true, l10, true, true, l13, l14, l15, l16, l17, l18, l19, l20, l21, l22, l23, l24, rfl, rfl, HF⟩
     ·
      obtain rfl : l13 = false := (AnyOrder.mem_ready hi).2.1
      obtain rfl : l10 = true := AnyOrder.dep (q := 0) hi rfl rfl rfl
      obtain rfl : l12 = true := AnyOrder.dep (q := 1) hi rfl rfl rfl
      obtain rfl : l9 = true := AnyOrder.dep (q := 2) hi rfl rfl rfl
      clear hi
      simp only [sel_true, selv_true] at hK ⊢
      refine AnyOrder.wpOp_out rfl (by rfl) ?_
      exact hK _ _ ⟨l0, l1, l2, l3, l4, l5, l6, l7, l8, true, true, l11, true, true, l14, l15, l16, l17, l18, l19, l20, l21, l22, l23, l24, rfl, rfl, HF⟩
     ·
      obtain rfl : l14 = false := (AnyOrder.mem_ready hi).2.1
      obtain rfl : l13 = true := AnyOrder.dep (q := 0) hi rfl rfl rfl
      obtain rfl : l9 = true := AnyOrder.dep (q := 1) hi rfl rfl rfl
      clear hi
      simp only [sel_true, selv_true] at hK ⊢
      refine AnyOrder.wpOp_out rfl (by rfl) ?_
      exact hK _ _ ⟨l0, l1, l2, l3, l4, l5, l6, l7, l8, true, l10, l11, l12, true, true, l15, l16, l17, l18, l19, l20, l21, l22, l23, l24, rfl, rfl, HF⟩
     ·
      obtain rfl : l15 = false := (AnyOrder.mem_ready hi).2.1
      obtain rfl : l14 = true := AnyOrder.dep (q := 0) hi rfl rfl rfl
      obtain rfl : l9 = true := AnyOrder.dep (q := 1) hi rfl rfl rfl
      clear hi
      simp only [sel_true, selv_true] at hK ⊢
      refine AnyOrder.wpOp_out rfl (by rfl) ?_
      exact hK _ _ ⟨l0, l1, l2, l3, l4, l5, l6, l7, l8, true, l10, l11, l12, l13, true, true, l16, l17, l18, l19, l20, l21, l22, l23, l24, rfl, rfl, HF⟩
     ·
      obtain rfl : l16 = false := (AnyOrder.mem_ready hi).2.1
      obtain rfl : l9 = true := AnyOrder.dep (q := 0) hi rfl rfl rfl
      clear hi
      simp only [sel_true, selv_true] at hK ⊢
      refine AnyOrder.wpOp_out rfl (by rfl) ?_
      exact hK _ _ ⟨l0, l1, l2, l3, l4, l5, l6, l7, l8, true, l10, l11, l12, l13, l14, l15, true, l17, l18, l19, l20, l21, l22, l23, l24, rfl, rfl, HF⟩
     ·
      obtain rfl : l17 = false := (AnyOrder.mem_ready hi).2.1
      obtain rfl : l9 = true := AnyOrder.dep (q := 0) hi rfl rfl rfl
      clear hi
      simp only [sel_true, selv_true] at hK ⊢
      refine AnyOrder.wpOp_out rfl (by rfl) ?_
      exact hK _ _ ⟨l0, l1, l2, l3, l4, l5, l6, l7, l8, true, l10, l11, l12, l13, l14, l15, l16, true, l18, l19, l20, l21, l22, l23, l24, rfl, rfl, HF⟩
     ·
      obtain rfl : l18 = false := (AnyOrder.mem_ready hi).2.1
      obtain rfl : l16 = true := AnyOrder.dep (q := 0) hi rfl rfl rfl
      obtain rfl : l17 = true := AnyOrder.dep (q := 1) hi rfl rfl rfl
      obtain rfl : l9 = true := AnyOrder.dep (q := 2) hi rfl rfl rfl
      clear hi
      simp only [sel_true, selv_true] at hK ⊢
      refine AnyOrder.wpOp_out rfl (by rfl) ?_
      exact hK _ _ ⟨l0, l1, l2, l3, l4, l5, l6, l7, l8, true, l10, l11, l12, l13, l14, l15, true, true, true, l19, l20, l21, l22, l23, l24, rfl, rfl, HF⟩
     ·
      obtain rfl : l19 = false := (AnyOrder.mem_ready hi).2.1
      obtain rfl : l18 = true := AnyOrder.dep (q := 0) hi rfl rfl rfl
      obtain rfl : l9 = true := AnyOrder.dep (q := 1) hi rfl rfl rfl
      clear hi
      simp only [sel_true, selv_true] at hK ⊢
      refine AnyOrder.wpOp_out rfl (by rfl) ?_
      exact hK _ _ ⟨l0, l1, l2, l3, l4, l5, l6, l7, l8, true, l10, l11, l12, l13, l14, l15, l16, l17, true, true, l20, l21, l22, l23, l24, rfl, rfl, HF⟩
     ·
      obtain rfl : l20 = false := (AnyOrder.mem_ready hi).2.1
      obtain rfl : l19 = true := AnyOrder.dep (q := 0) hi rfl rfl rfl
      obtain rfl : l9 = true := AnyOrder.dep (q := 1) hi rfl rfl rfl
      clear hi
      simp only [sel_true, selv_true] at hK ⊢
      refine AnyOrder.wpOp_out rfl (by rfl) ?_
      exact hK _ _ ⟨l0, l1, l2, l3, l4, l5, l6, l7, l8, true, l10, l11, l12, l13, l14, l15, l16, l17, l18, true, true, l21, l22, l23, l24, rfl, rfl, HF⟩
     ·
      obtain rfl : l21 = false := (AnyOrder.mem_ready hi).2.1
      obtain rfl : l15 = true := AnyOrder.dep (q := 0) hi rfl rfl rfl
      obtain rfl : l20 = true := AnyOrder.dep (q := 1) hi rfl rfl rfl
      obtain rfl : l9 = true := AnyOrder.dep (q := 2) hi rfl rfl rfl
      clear hi
      simp only [sel_true, selv_true] at hK ⊢
      refine AnyOrder.wpOp_out rfl (by rfl) ?_
      exact hK _ _ ⟨l0, l1, l2, l3, l4, l5, l6, l7, l8, true, l10, l11, l12, l13, l14, true, l16, l17, l18, l19, true, true, l22, l23, l24, rfl, rfl, HF⟩
     ·
      obtain rfl : l22 = false := (AnyOrder.mem_ready hi).2.1
      obtain rfl : l21 = true := AnyOrder.dep (q := 0) hi rfl rfl rfl
      obtain rfl : l9 = true := AnyOrder.dep (q := 1) hi rfl rfl rfl
      clear hi
      simp only [sel_true, selv_true] at hK ⊢
      refine AnyOrder.wpOp_out rfl (by rfl) ?_
      exact hK _ _ ⟨l0, l1, l2, l3, l4, l5, l6, l7, l8, true, l10, l11, l12, l13, l14, l15, l16, l17, l18, l19, l20, true, true, l23, l24, rfl, rfl, HF⟩
     ·
      obtain rfl : l23 = false := (AnyOrder.mem_ready hi).2.1
      obtain rfl : l9 = true := AnyOrder.dep (q := 0) hi rfl rfl rfl
      obtain rfl : l22 = true := AnyOrder.dep (q := 1) hi rfl rfl rfl
      obtain rfl : l6 = true := AnyOrder.dep (q := 2) hi rfl rfl rfl
      clear hi
      simp only [sel_true, selv_true] at hK ⊢
      refine AnyOrder.wpOp_out rfl (by rfl) ?_
      exact hK _ _ ⟨l0, l1, l2, l3, l4, l5, true, l7, l8, true, l10, l11, l12, l13, l14, l15, l16, l17, l18, l19, l20, l21, true, true, l24, rfl, rfl, HF⟩
     ·
      obtain rfl : l24 = false := (AnyOrder.mem_ready hi).2.1
      obtain rfl : l6 = true := AnyOrder.dep (q := 0) hi rfl rfl rfl
      obtain rfl : l23 = true := AnyOrder.dep (q := 1) hi rfl rfl rfl
      clear hi
      simp only [sel_true, selv_true] at hK ⊢
      refine AnyOrder.wpOp_go rfl (by rfl) ?_
      go_wp2_with fail
      exact ⟨l0, l1, l2, l3, l4, l5, true, l7, l8, l9, l10, l11, l12, l13, l14, l15, l16, l17, l18, l19, l20, l21, l22, true, true, rfl, rfl, HF⟩
    case last =>
     rintro L ac V ⟨l0, l1, l2, l3, l4, l5, l6, l7, l8, l9, l10, l11, l12, l13, l14, l15, l16, l17, l18, l19, l20, l21, l22, l23, l24, rfl, rfl, HF⟩ hr
     have hall := AnyOrder.all_listed rfl (by kernel_rfl) hr
     clear hr
     obtain rfl : l0 = true := hall 0 (by decide)
     obtain rfl : l1 = true := hall 1 (by decide)
     obtain rfl : l2 = true := hall 2 (by decide)
     obtain rfl : l3 = true := hall 3 (by decide)
     obtain rfl : l4 = true := hall 4 (by decide)
     obtain rfl : l5 = true := hall 5 (by decide)
     obtain rfl : l6 = true := hall 6 (by decide)
     obtain rfl : l7 = true := hall 7 (by decide)
     obtain rfl : l8 = true := hall 8 (by decide)
     obtain rfl : l9 = true := hall 9 (by decide)
     obtain rfl : l10 = true := hall 10 (by decide)
     obtain rfl : l11 = true := hall 11 (by decide)
     obtain rfl : l12 = true := hall 12 (by decide)
     obtain rfl : l13 = true := hall 13 (by decide)
     obtain rfl : l14 = true := hall 14 (by decide)
     obtain rfl : l15 = true := hall 15 (by decide)
     obtain rfl : l16 = true := hall 16 (by decide)
     obtain rfl : l17 = true := hall 17 (by decide)
     obtain rfl : l18 = true := hall 18 (by decide)
     obtain rfl : l19 = true := hall 19 (by decide)
     obtain rfl : l20 = true := hall 20 (by decide)
     obtain rfl : l21 = true := hall 21 (by decide)
     obtain rfl : l22 = true := hall 22 (by decide)
     obtain rfl : l23 = true := hall 23 (by decide)
     obtain rfl : l24 = true := hall 24 (by decide)
     clear hall
     simp only [sel_true, selv_true]
     have HB2 := Aside0.mk (below_more HB9.out HF.out)
     go_wp2
     go_ret
     exact ⟨by rw [HEND.out]; rfl, HB2.out⟩
   | true =>
    rcases Nat.eq_zero_or_pos k with rfl | hpos
    ·
     have HST : Aside0 (storeOk (l0.take 1) = true) := ⟨(storeOk_first Hx.out).trans Hv.out⟩
     have ha : ad.add (0 * 6) = ad := by simp [Addr.add]
     rw [ha] at HG
     clear ha
     go_wp2
     refine AnyOrder.wp_region (by kernel_rfl) (rvBInv wr.drew ad n c0 0 0 x x false _ _ _ _ _ _ _ _ _ _ _ _ _ _ _ _ _ _ _ _ _ _ _ _ _ _ _ _ _ _ _ _ _) ⟨false, false, false, false, false, false, false, false, false, false, false, false, false, false, false, false, false, false, false, false, false, false, false, false, false, rfl, rfl, ⟨Below.refl _ _⟩⟩ ?step ?last
     case step =>
      rintro L ac V i ⟨l0, l1, l2, l3, l4, l5, l6, l7, l8, l9, l10, l11, l12, l13, l14, l15, l16, l17, l18, l19, l20, l21, l22, l23, l24, rfl, rfl, HF⟩ hi K hK
      have h1 : i = 0 ∨ i = 1 ∨ i = 2 ∨ i = 3 ∨ i = 4 ∨ i = 5 ∨ i = 6 ∨ i = 7 ∨ i = 8 ∨ i = 9 ∨ i = 10 ∨ i = 11 ∨ i = 12 ∨ i = 13 ∨ i = 14 ∨ i = 15 ∨ i = 16 ∨ i = 17 ∨ i = 18 ∨ i = 19 ∨ i = 20 ∨ i = 21 ∨ i = 22 ∨ i = 23 ∨ i = 24 := by
       have h1 := (AnyOrder.mem_ready hi).1
       clear hi hK
       change i < 25 at h1
       omega
      rcases h1 with rfl | rfl | rfl | rfl | rfl | rfl | rfl | rfl | rfl | rfl | rfl | rfl | rfl | rfl | rfl | rfl | rfl | rfl | rfl | rfl | rfl | rfl | rfl | rfl | rfl
      ·
       obtain rfl : l0 = false := (AnyOrder.mem_ready hi).2.1
       clear hi
       refine AnyOrder.wpOp_go rfl (by rfl) ?_
       go_wp2_with fail
       exact ⟨true, l1, l2, l3, l4, l5, l6, l7, l8, l9, l10, l11, l12, l13, l14, l15, l16, l17, l18, l19, l20, l21, l22, l23, l24, rfl, rfl, HF⟩
      ·
       obtain rfl : l1 = false := (AnyOrder.mem_ready hi).2.1
       clear hi
       refine AnyOrder.wpOp_go rfl (by rfl) ?_
       go_wp2_with fail
       exact ⟨l0, true, l2, l3, l4, l5, l6, l7, l8, l9, l10, l11, l12, l13, l14, l15, l16, l17, l18, l19, l20, l21, l22, l23, l24, rfl, rfl, HF⟩
      ·
       obtain rfl : l2 = false := (AnyOrder.mem_ready hi).2.1
       obtain rfl : l0 = true := AnyOrder.dep (q := 0) hi rfl rfl rfl
       obtain rfl : l1 = true := AnyOrder.dep (q := 1) hi rfl rfl rfl
       clear hi
       simp only [sel_true, selv_true] at hK ⊢
       have hkk := HKN.out.1
       have hkl2 := HKN.out.2
       refine AnyOrder.wpOp_go rfl (by rfl) ?_
       go_wp2_with fail
       exact ⟨true, true, true, l3, l4, l5, l6, l7, l8, l9, l10, l11, l12, l13, l14, l15, l16, l17, l18, l19, l20, l21, l22, l23, l24, rfl, rfl, HF⟩
      ·
       obtain rfl : l3 = false := (AnyOrder.mem_ready hi).2.1
       obtain rfl : l2 = true := AnyOrder.dep (q := 0) hi rfl rfl rfl
       clear hi
       simp only [sel_true, selv_true] at hK ⊢
       obtain ⟨g0, g1, g2, g3, g4, g5⟩ := HG.out
       have g0 := pw_cell_below HF.out g0
       have g1 := pw_cell_below HF.out g1
       have g2 := pw_cell_below HF.out g2
       have g3 := pw_cell_below HF.out g3
       have g4 := pw_cell_below HF.out g4
       have g5 := pw_cell_below HF.out g5
       refine AnyOrder.wpOp_go rfl (by rfl) ?_
       go_wp2_with fail
       exact ⟨l0, l1, true, true, l4, l5, l6, l7, l8, l9, l10, l11, l12, l13, l14, l15, l16, l17, l18, l19, l20, l21, l22, l23, l24, rfl, rfl, HF⟩
      ·
       obtain rfl : l4 = false := (AnyOrder.mem_ready hi).2.1
       obtain rfl : l3 = true := AnyOrder.dep (q := 0) hi rfl rfl rfl
       clear hi
       simp only [sel_true, selv_true] at hK ⊢
       refine AnyOrder.wpOp_go rfl (by rfl) ?_
       go_wp2_with fail
       refine (redpencilref09_Valid.calls _ _ _ _ _ _ true V (by rw [HNV.out, Hv.out])).mono ?_
       rintro e V' ⟨rfl, hb⟩
       exact hK _ _ ⟨l0, l1, l2, true, true, l5, l6, l7, l8, l9, l10, l11, l12, l13, l14, l15, l16, l17, l18, l19, l20, l21, l22, l23, l24, rfl, rfl, ⟨below_more HF.out hb⟩⟩
      ·
       obtain rfl : l5 = false := (AnyOrder.mem_ready hi).2.1
       obtain rfl : l4 = true := AnyOrder.dep (q := 0) hi rfl rfl rfl
       clear hi
       simp only [sel_true, selv_true] at hK ⊢
       refine AnyOrder.wpOp_go rfl (by rfl) ?_
       go_wp2_with fail
       exact ⟨l0, l1, l2, l3, true, true, l6, l7, l8, l9, l10, l11, l12, l13, l14, l15, l16, l17, l18, l19, l20, l21, l22, l23, l24, rfl, rfl, HF⟩
      ·
       obtain rfl : l6 = false := (AnyOrder.mem_ready hi).2.1
       obtain rfl : l5 = true := AnyOrder.dep (q := 0) hi rfl rfl rfl
       obtain rfl : l4 = true := AnyOrder.dep (q := 1) hi rfl rfl rfl
       clear hi
       simp only [sel_true, selv_true] at hK ⊢
       refine AnyOrder.wpOp_go rfl (by rfl) ?_
       go_wp2_with fail
       exact ⟨l0, l1, l2, l3, true, true, true, l7, l8, l9, l10, l11, l12, l13, l14, l15, l16, l17, l18, l19, l20, l21, l22, l23, l24, rfl, rfl, HF⟩
      ·
       obtain rfl : l7 = false := (AnyOrder.mem_ready hi).2.1
       obtain rfl : l6 = true := AnyOrder.dep (q := 0) hi rfl rfl rfl
       clear hi
       simp only [sel_true, selv_true] at hK ⊢
       refine AnyOrder.wpOp_go rfl (by rfl) ?_
       go_wp2_with fail
       exact ⟨l0, l1, l2, l3, l4, l5, true, true, l8, l9, l10, l11, l12, l13, l14, l15, l16, l17, l18, l19, l20, l21, l22, l23, l24, rfl, rfl, HF⟩
      ·
       obtain rfl : l8 = false := (AnyOrder.mem_ready hi).2.1
       obtain rfl : l7 = true := AnyOrder.dep (q := 0) hi rfl rfl rfl
       obtain rfl : l6 = true := AnyOrder.dep (q := 1) hi rfl rfl rfl
       clear hi
       simp only [sel_true, selv_true] at hK ⊢
       refine AnyOrder.wpOp_go rfl (by rfl) ?_
       go_wp2_with fail
       exact ⟨l0, l1, l2, l3, l4, l5, true, true, true, l9, l10, l11, l12, l13, l14, l15, l16, l17, l18, l19, l20, l21, l22, l23, l24, rfl, rfl, HF⟩
      ·
       obtain rfl : l9 = false := (AnyOrder.mem_ready hi).2.1
       obtain rfl : l8 = true := AnyOrder.dep (q := 0) hi rfl rfl rfl
       obtain rfl : l6 = true := AnyOrder.dep (q := 1) hi rfl rfl rfl
       clear hi
       simp only [sel_true, selv_true] at hK ⊢
       refine AnyOrder.wpOp_go rfl (by rfl) ?_
       go_wp2_with fail
       exact ⟨l0, l1, l2, l3, l4, l5, true, l7, true, true, l10, l11, l12, l13, l14, l15, l16, l17, l18, l19, l20, l21, l22, l23, l24, rfl, rfl, HF⟩
      ·
       obtain rfl : l10 = false := (AnyOrder.mem_ready hi).2.1
       obtain rfl : l9 = true := AnyOrder.dep (q := 0) hi rfl rfl rfl
       clear hi
       simp only [sel_true, selv_true] at hK ⊢
       refine AnyOrder.wpOp_out rfl (by rfl) ?_
       exact hK _ _ ⟨l0, l1, l2, l3, l4, l5, l6, l7, l8, true, true, l11, l12, l13, l14, l15, l16, l17, l18, l19, l20, l21, l22, l23, l24, rfl, rfl, HF⟩
      ·
       obtain rfl : l11 = false := (AnyOrder.mem_ready hi).2.1
       obtain rfl : l9 = true := AnyOrder.dep (q := 0) hi rfl rfl rfl
       clear hi
       simp only [sel_true, selv_true] at hK ⊢
       refine AnyOrder.wpOp_out rfl (by rfl) ?_
       exact hK _ _ ⟨l0, l1, l2, l3, l4, l5, l6, l7, l8, true, l10, true, l12, l13, l14, l15, l16, l17, l18, l19, l20, l21, l22, l23, l24, rfl, rfl, HF⟩
      ·
       obtain rfl : l12 = false := (AnyOrder.mem_ready hi).2.1
       obtain rfl : l11 = true := AnyOrder.dep (q := 0) hi rfl rfl rfl
       obtain rfl : l9 = true := AnyOrder.dep (q := 1) hi rfl rfl rfl
       clear hi
       simp only [sel_true, selv_true] at hK ⊢
       refine AnyOrder.wpOp_out rfl (by rfl) ?_
       exact hK _ _ ⟨l0, l1, l2, l3, l4, l5, l6, l7, l8, true, l10, true, true, l13, l14, l15, l16, l17, l18, l19, l20, l21, l22, l23, l24, rfl, rfl, HF⟩
      ·
       obtain rfl : l13 = false := (AnyOrder.mem_ready hi).2.1
       obtain rfl : l10 = true := AnyOrder.dep (q := 0) hi rfl rfl rfl
       obtain rfl : l12 = true := AnyOrder.dep (q := 1) hi rfl rfl rfl
       obtain rfl : l9 = true := AnyOrder.dep (q := 2) hi rfl rfl rfl
       clear hi
       simp only [sel_true, selv_true] at hK ⊢
       refine AnyOrder.wpOp_out rfl (by rfl) ?_
       exact hK _ _ ⟨l0, l1, l2, l3, l4, l5, l6, l7, l8, true, true, l11, true, true, l14, l15, l16, l17, l18, l19, l20, l21, l22, l23, l24, rfl, rfl, HF⟩
      ·
       obtain rfl : l14 = false := (AnyOrder.mem_ready hi).2.1
       obtain rfl : l13 = true := AnyOrder.dep (q := 0) hi rfl rfl rfl
       obtain rfl : l9 = true := AnyOrder.dep (q := 1) hi rfl rfl rfl
       clear hi
       simp only [sel_true, selv_true] at hK ⊢
       refine AnyOrder.wpOp_out rfl (by rfl) ?_
       exact hK _ _ ⟨l0, l1, l2, l3, l4, l5, l6, l7, l8, true, l10, l11, l12, true, true, l15, l16, l17, l18, l19, l20, l21, l22, l23, l24, rfl, rfl, HF⟩
      ·
       obtain rfl : l15 = false := (AnyOrder.mem_ready hi).2.1
       obtain rfl : l14 = true := AnyOrder.dep (q := 0) hi rfl rfl rfl
       obtain rfl : l9 = true := AnyOrder.dep (q := 1) hi rfl rfl rfl
       clear hi
       simp only [sel_true, selv_true] at hK ⊢
       refine AnyOrder.wpOp_out rfl (by rfl) ?_
       exact hK _ _ ⟨l0, l1, l2, l3, l4, l5, l6, l7, l8, true, l10, l11, l12, l13, true, true, l16, l17, l18, l19, l20, l21, l22, l23, l24, rfl, rfl, HF⟩
      ·
       obtain rfl : l16 = false := (AnyOrder.mem_ready hi).2.1
       obtain rfl : l9 = true := AnyOrder.dep (q := 0) hi rfl rfl rfl
       clear hi
       simp only [sel_true, selv_true] at hK ⊢
       refine AnyOrder.wpOp_out rfl (by rfl) ?_
       exact hK _ _ ⟨l0, l1, l2, l3, l4, l5, l6, l7, l8, true, l10, l11, l12, l13, l14, l15, true, l17, l18, l19, l20, l21, l22, l23, l24, rfl, rfl, HF⟩
      ·
       obtain rfl : l17 = false := (AnyOrder.mem_ready hi).2.1
       obtain rfl : l9 = true := AnyOrder.dep (q := 0) hi rfl rfl rfl
       clear hi
       simp only [sel_true, selv_true] at hK ⊢
       refine AnyOrder.wpOp_out rfl (by rfl) ?_
       exact hK _ _ ⟨l0, l1, l2, l3, l4, l5, l6, l7, l8, true, l10, l11, l12, l13, l14, l15, l16, true, l18, l19, l20, l21, l22, l23, l24, rfl, rfl, HF⟩
      ·
       obtain rfl : l18 = false := (AnyOrder.mem_ready hi).2.1
       obtain rfl : l16 = true := AnyOrder.dep (q := 0) hi rfl rfl rfl
       obtain rfl : l17 = true := AnyOrder.dep (q := 1) hi rfl rfl rfl
       obtain rfl : l9 = true := AnyOrder.dep (q := 2) hi rfl rfl rfl
       clear hi
       simp only [sel_true, selv_true] at hK ⊢
       refine AnyOrder.wpOp_out rfl (by rfl) ?_
       exact hK _ _ ⟨l0, l1, l2, l3, l4, l5, l6, l7, l8, true, l10, l11, l12, l13, l14, l15, true, true, true, l19, l20, l21, l22, l23, l24, rfl, rfl, HF⟩
      ·
       obtain rfl : l19 = false := (AnyOrder.mem_ready hi).2.1
       obtain rfl : l18 = true := AnyOrder.dep (q := 0) hi rfl rfl rfl
       obtain rfl : l9 = true := AnyOrder.dep (q := 1) hi rfl rfl rfl
       clear hi
       simp only [sel_true, selv_true] at hK ⊢
       refine AnyOrder.wpOp_out rfl (by rfl) ?_
       exact hK _ _ ⟨l0, l1, l2, l3, l4, l5, l6, l7, l8, true, l10, l11, l12, l13, l14, l15, l16, l17, true, true, l20, l21, l22, l23, l24, rfl, rfl, HF⟩
      ·
       obtain rfl : l20 = false := (AnyOrder.mem_ready hi).2.1
       obtain rfl : l19 = true := AnyOrder.dep (q := 0) hi rfl rfl rfl
       obtain rfl : l9 = true := AnyOrder.dep (q := 1) hi rfl rfl rfl
       clear hi
       simp only [sel_true, selv_true] at hK ⊢
       refine AnyOrder.wpOp_out rfl (by rfl) ?_
       exact hK _ _ ⟨l0, l1, l2, l3, l4, l5, l6, l7, l8, true, l10, l11, l12, l13, l14, l15, l16, l17, l18, true, true, l21, l22, l23, l24, rfl, rfl, HF⟩
      ·
       obtain rfl : l21 = false := (AnyOrder.mem_ready hi).2.1
       obtain rfl : l15 = true := AnyOrder.dep (q := 0) hi rfl rfl rfl
       obtain rfl : l20 = true := AnyOrder.dep (q := 1) hi rfl rfl rfl
       obtain rfl : l9 = true := AnyOrder.dep (q := 2) hi rfl rfl rfl
       clear hi
       simp only [sel_true, selv_true] at hK ⊢
       refine AnyOrder.wpOp_out rfl (by rfl) ?_
       exact hK _ _ ⟨l0, l1, l2, l3, l4, l5, l6, l7, l8, true, l10, l11, l12, l13, l14, true, l16, l17, l18, l19, true, true, l22, l23, l24, rfl, rfl, HF⟩
      ·
       obtain rfl : l22 = false := (AnyOrder.mem_ready hi).2.1
       obtain rfl : l21 = true := AnyOrder.dep (q := 0) hi rfl rfl rfl
       obtain rfl : l9 = true := AnyOrder.dep (q := 1) hi rfl rfl rfl
       clear hi
       simp only [sel_true, selv_true] at hK ⊢
       refine AnyOrder.wpOp_out rfl (by rfl) ?_
       exact hK _ _ ⟨l0, l1, l2, l3, l4, l5, l6, l7, l8, true, l10, l11, l12, l13, l14, l15, l16, l17, l18, l19, l20, true, true, l23, l24, rfl, rfl, HF⟩
      ·
       obtain rfl : l23 = false := (AnyOrder.mem_ready hi).2.1
       obtain rfl : l9 = true := AnyOrder.dep (q := 0) hi rfl rfl rfl
       obtain rfl : l22 = true := AnyOrder.dep (q := 1) hi rfl rfl rfl
       obtain rfl : l6 = true := AnyOrder.dep (q := 2) hi rfl rfl rfl
       clear hi
       simp only [sel_true, selv_true] at hK ⊢
       refine AnyOrder.wpOp_go rfl (by rfl) ?_
       go_wp2_with fail
       exact ⟨l0, l1, l2, l3, l4, l5, true, l7, l8, true, l10, l11, l12, l13, l14, l15, l16, l17, l18, l19, l20, l21, true, true, l24, rfl, rfl, HF⟩
      ·
       obtain rfl : l24 = false := (AnyOrder.mem_ready hi).2.1
       obtain rfl : l6 = true := AnyOrder.dep (q := 0) hi rfl rfl rfl
       obtain rfl : l23 = true := AnyOrder.dep (q := 1) hi rfl rfl rfl
       clear hi
       simp only [sel_true, selv_true] at hK ⊢
       refine AnyOrder.wpOp_go rfl (by rfl) ?_
       go_wp2_with fail
       exact ⟨l0, l1, l2, l3, l4, l5, true, l7, l8, l9, l10, l11, l12, l13, l14, l15, l16, l17, l18, l19, l20, l21, l22, true, true, rfl, rfl, HF⟩
     case last =>
      rintro L ac V ⟨l0, l1, l2, l3, l4, l5, l6, l7, l8, l9, l10, l11, l12, l13, l14, l15, l16, l17, l18, l19, l20, l21, l22, l23, l24, rfl, rfl, HF⟩ hr
      have hall := AnyOrder.all_listed rfl (by kernel_rfl) hr
      clear hr
      obtain rfl : l0 = true := hall 0 (by decide)
      obtain rfl : l1 = true := hall 1 (by decide)
      obtain rfl : l2 = true := hall 2 (by decide)
      obtain rfl : l3 = true := hall 3 (by decide)
      obtain rfl : l4 = true := hall 4 (by decide)
      obtain rfl : l5 = true := hall 5 (by decide)
      obtain rfl : l6 = true := hall 6 (by decide)
      obtain rfl : l7 = true := hall 7 (by decide)
      obtain rfl : l8 = true := hall 8 (by decide)
      obtain rfl : l9 = true := hall 9 (by decide)
      obtain rfl : l10 = true := hall 10 (by decide)
      obtain rfl : l11 = true := hall 11 (by decide)
      obtain rfl : l12 = true := hall 12 (by decide)
      obtain rfl : l13 = true := hall 13 (by decide)
      obtain rfl : l14 = true := hall 14 (by decide)
      obtain rfl : l15 = true := hall 15 (by decide)
      obtain rfl : l16 = true := hall 16 (by decide)
      obtain rfl : l17 = true := hall 17 (by decide)
      obtain rfl : l18 = true := hall 18 (by decide)
      obtain rfl : l19 = true := hall 19 (by decide)
      obtain rfl : l20 = true := hall 20 (by decide)
      obtain rfl : l21 = true := hall 21 (by decide)
      obtain rfl : l22 = true := hall 22 (by decide)
      obtain rfl : l23 = true := hall 23 (by decide)
      obtain rfl : l24 = true := hall 24 (by decide)
      clear hall
      simp only [sel_true, selv_true]
      have HB2 := Aside0.mk (below_more HB9.out HF.out)
      go_wp2
      go_roundw
      case rel => exact ⟨1, by omega, rfl, HST, HB2⟩
      case measure => simp [intOf] <;> omega
    ·
     obtain ⟨j, HKJ⟩ : ∃ j, Aside0 (k = j + 1) := ⟨k - 1, ⟨by omega⟩⟩
     have hkj := HKJ.out
     obtain ⟨y, Hy⟩ : ∃ y, Aside0 (l0[j]? = some y) := ⟨_, ⟨List.getElem?_eq_getElem (by rw [Hn.out]; omega)⟩⟩
     obtain ⟨ad', e, y0, y1, _, _, _, _⟩ := node_at HR.out HB9.out j y Hy.out
     cases e
     have HY := Aside0.mk (And.intro y0 y1)
     clear y0 y1
     obtain ⟨b, Hb⟩ : ∃ b, Aside0 (dotLt y.f0 x.f0 = b) := ⟨_, ⟨rfl⟩⟩
     have HST : Aside0 (storeOk (l0.take (k + 1)) = b) := ⟨by have h1 := HOK.out; have h2 := Hx.out; rw [hkj] at h1 h2 ⊢; rw [storeOk_next Hy.out h2, h1, Hv.out, Hb.out]; rfl⟩
     clear hkj
     go_wp2
     refine AnyOrder.wp_region (by kernel_rfl) (rvCInv wr.drew ad n c0 k j x y b _ _ _ _ _ _ _ _ _ _ _ _ _ _ _ _ _ _ _ _ _ _ _ _ _ _ _ _ _ _ _ _ _) ⟨false, false, false, false, false, false, false, false, false, false, false, false, false, false, false, false, false, false, false, false, false, false, false, false, false, rfl, rfl, ⟨Below.refl _ _⟩⟩ ?step ?last
     case step =>
      rintro L ac V i ⟨l0, l1, l2, l3, l4, l5, l6, l7, l8, l9, l10, l11, l12, l13, l14, l15, l16, l17, l18, l19, l20, l21, l22, l23, l24, rfl, rfl, HF⟩ hi K hK
      have h1 : i = 0 ∨ i = 1 ∨ i = 2 ∨ i = 3 ∨ i = 4 ∨ i = 5 ∨ i = 6 ∨ i = 7 ∨ i = 8 ∨ i = 9 ∨ i = 10 ∨ i = 11 ∨ i = 12 ∨ i = 13 ∨ i = 14 ∨ i = 15 ∨ i = 16 ∨ i = 17 ∨ i = 18 ∨ i = 19 ∨ i = 20 ∨ i = 21 ∨ i = 22 ∨ i = 23 ∨ i = 24 := by
       have h1 := (AnyOrder.mem_ready hi).1
       clear hi hK
       change i < 25 at h1
       omega
      rcases h1 with rfl | rfl | rfl | rfl | rfl | rfl | rfl | rfl | rfl | rfl | rfl | rfl | rfl | rfl | rfl | rfl | rfl | rfl | rfl | rfl | rfl | rfl | rfl | rfl | rfl
      ·
       obtain rfl : l0 = false := (AnyOrder.mem_ready hi).2.1
       clear hi
       refine AnyOrder.wpOp_go rfl (by rfl) ?_
       go_wp2_with fail
       exact ⟨true, l1, l2, l3, l4, l5, l6, l7, l8, l9, l10, l11, l12, l13, l14, l15, l16, l17, l18, l19, l20, l21, l22, l23, l24, rfl, rfl, HF⟩
      ·
       obtain rfl : l1 = false := (AnyOrder.mem_ready hi).2.1
       clear hi
       refine AnyOrder.wpOp_go rfl (by rfl) ?_
       go_wp2_with fail
       exact ⟨l0, true, l2, l3, l4, l5, l6, l7, l8, l9, l10, l11, l12, l13, l14, l15, l16, l17, l18, l19, l20, l21, l22, l23, l24, rfl, rfl, HF⟩
      ·
       obtain rfl : l2 = false := (AnyOrder.mem_ready hi).2.1
       obtain rfl : l0 = true := AnyOrder.dep (q := 0) hi rfl rfl rfl
       obtain rfl : l1 = true := AnyOrder.dep (q := 1) hi rfl rfl rfl
       clear hi
       simp only [sel_true, selv_true] at hK ⊢
       have hkk := HKN.out.1
       have hkl2 := HKN.out.2
       refine AnyOrder.wpOp_go rfl (by rfl) ?_
       go_wp2_with fail
       exact ⟨true, true, true, l3, l4, l5, l6, l7, l8, l9, l10, l11, l12, l13, l14, l15, l16, l17, l18, l19, l20, l21, l22, l23, l24, rfl, rfl, HF⟩
      ·
       obtain rfl : l3 = false := (AnyOrder.mem_ready hi).2.1
       obtain rfl : l2 = true := AnyOrder.dep (q := 0) hi rfl rfl rfl
       clear hi
       simp only [sel_true, selv_true] at hK ⊢
       obtain ⟨g0, g1, g2, g3, g4, g5⟩ := HG.out
       have g0 := pw_cell_below HF.out g0
       have g1 := pw_cell_below HF.out g1
       have g2 := pw_cell_below HF.out g2
       have g3 := pw_cell_below HF.out g3
       have g4 := pw_cell_below HF.out g4
       have g5 := pw_cell_below HF.out g5
       refine AnyOrder.wpOp_go rfl (by rfl) ?_
       go_wp2_with fail
       exact ⟨l0, l1, true, true, l4, l5, l6, l7, l8, l9, l10, l11, l12, l13, l14, l15, l16, l17, l18, l19, l20, l21, l22, l23, l24, rfl, rfl, HF⟩
      ·
       obtain rfl : l4 = false := (AnyOrder.mem_ready hi).2.1
       obtain rfl : l3 = true := AnyOrder.dep (q := 0) hi rfl rfl rfl
       clear hi
       simp only [sel_true, selv_true] at hK ⊢
       refine AnyOrder.wpOp_go rfl (by rfl) ?_
       go_wp2_with fail
       refine (redpencilref09_Valid.calls _ _ _ _ _ _ true V (by rw [HNV.out, Hv.out])).mono ?_
       rintro e V' ⟨rfl, hb⟩
       exact hK _ _ ⟨l0, l1, l2, true, true, l5, l6, l7, l8, l9, l10, l11, l12, l13, l14, l15, l16, l17, l18, l19, l20, l21, l22, l23, l24, rfl, rfl, ⟨below_more HF.out hb⟩⟩
      ·
       obtain rfl : l5 = false := (AnyOrder.mem_ready hi).2.1
       obtain rfl : l4 = true := AnyOrder.dep (q := 0) hi rfl rfl rfl
       clear hi
       simp only [sel_true, selv_true] at hK ⊢
       refine AnyOrder.wpOp_go rfl (by rfl) ?_
       go_wp2_with fail
       exact ⟨l0, l1, l2, l3, true, true, l6, l7, l8, l9, l10, l11, l12, l13, l14, l15, l16, l17, l18, l19, l20, l21, l22, l23, l24, rfl, rfl, HF⟩
      ·
       obtain rfl : l6 = false := (AnyOrder.mem_ready hi).2.1
       obtain rfl : l5 = true := AnyOrder.dep (q := 0) hi rfl rfl rfl
       obtain rfl : l4 = true := AnyOrder.dep (q := 1) hi rfl rfl rfl
       clear hi
       simp only [sel_true, selv_true] at hK ⊢
       refine AnyOrder.wpOp_go rfl (by rfl) ?_
       go_wp2_with fail
       exact ⟨l0, l1, l2, l3, true, true, true, l7, l8, l9, l10, l11, l12, l13, l14, l15, l16, l17, l18, l19, l20, l21, l22, l23, l24, rfl, rfl, HF⟩
      ·
       obtain rfl : l7 = false := (AnyOrder.mem_ready hi).2.1
       obtain rfl : l6 = true := AnyOrder.dep (q := 0) hi rfl rfl rfl
       clear hi
       simp only [sel_true, selv_true] at hK ⊢
       refine AnyOrder.wpOp_go rfl (by rfl) ?_
       go_wp2_with fail
       exact ⟨l0, l1, l2, l3, l4, l5, true, true, l8, l9, l10, l11, l12, l13, l14, l15, l16, l17, l18, l19, l20, l21, l22, l23, l24, rfl, rfl, HF⟩
      ·
       obtain rfl : l8 = false := (AnyOrder.mem_ready hi).2.1
       obtain rfl : l7 = true := AnyOrder.dep (q := 0) hi rfl rfl rfl
       obtain rfl : l6 = true := AnyOrder.dep (q := 1) hi rfl rfl rfl
       clear hi
       simp only [sel_true, selv_true] at hK ⊢
       have hkj := HKJ.out
       have hp : decide ((k : Int) > 0) = true := decide_eq_true (by omega)
       have hp2 : decide ((0 : Int) < (k : Int)) = true := decide_eq_true (by omega)
       have hp3 : decide (0 < k) = true := decide_eq_true (by omega)
       clear hkj
       refine AnyOrder.wpOp_go rfl (by rfl) ?_
       go_wp2_with fail
       exact ⟨l0, l1, l2, l3, l4, l5, true, true, true, l9, l10, l11, l12, l13, l14, l15, l16, l17, l18, l19, l20, l21, l22, l23, l24, rfl, rfl, HF⟩
      ·
       obtain rfl : l9 = false := (AnyOrder.mem_ready hi).2.1
       obtain rfl : l8 = true := AnyOrder.dep (q := 0) hi rfl rfl rfl
       obtain rfl : l6 = true := AnyOrder.dep (q := 1) hi rfl rfl rfl
       clear hi
       simp only [sel_true, selv_true] at hK ⊢
       refine AnyOrder.wpOp_go rfl (by rfl) ?_
       go_wp2_with fail
       exact ⟨l0, l1, l2, l3, l4, l5, true, l7, true, true, l10, l11, l12, l13, l14, l15, l16, l17, l18, l19, l20, l21, l22, l23, l24, rfl, rfl, HF⟩
      ·
       obtain rfl : l10 = false := (AnyOrder.mem_ready hi).2.1
       obtain rfl : l9 = true := AnyOrder.dep (q := 0) hi rfl rfl rfl
       clear hi
       simp only [sel_true, selv_true] at hK ⊢
       refine AnyOrder.wpOp_go rfl (by rfl) ?_
       go_wp2_with fail
       exact ⟨l0, l1, l2, l3, l4, l5, l6, l7, l8, true, true, l11, l12, l13, l14, l15, l16, l17, l18, l19, l20, l21, l22, l23, l24, rfl, rfl, HF⟩
      ·
       obtain rfl : l11 = false := (AnyOrder.mem_ready hi).2.1
       obtain rfl : l9 = true := AnyOrder.dep (q := 0) hi rfl rfl rfl
       clear hi
       simp only [sel_true, selv_true] at hK ⊢
       refine AnyOrder.wpOp_go rfl (by rfl) ?_
       go_wp2_with fail
       exact ⟨l0, l1, l2, l3, l4, l5, l6, l7, l8, true, l10, true, l12, l13, l14, l15, l16, l17, l18, l19, l20, l21, l22, l23, l24, rfl, rfl, HF⟩
      ·
       obtain rfl : l12 = false := (AnyOrder.mem_ready hi).2.1
       obtain rfl : l11 = true := AnyOrder.dep (q := 0) hi rfl rfl rfl
       obtain rfl : l9 = true := AnyOrder.dep (q := 1) hi rfl rfl rfl
       clear hi
       simp only [sel_true, selv_true] at hK ⊢
       have hw : wrap64 ((k : Int) - 1) = (k : Int) - 1 := by have h1 := HKJ.out; have h2 := HKN.out; unfold wrap64; omega
       refine AnyOrder.wpOp_go rfl (by rfl) ?_
       go_wp2_with fail
       exact ⟨l0, l1, l2, l3, l4, l5, l6, l7, l8, true, l10, true, true, l13, l14, l15, l16, l17, l18, l19, l20, l21, l22, l23, l24, rfl, rfl, HF⟩
      ·
       obtain rfl : l13 = false := (AnyOrder.mem_ready hi).2.1
       obtain rfl : l10 = true := AnyOrder.dep (q := 0) hi rfl rfl rfl
       obtain rfl : l12 = true := AnyOrder.dep (q := 1) hi rfl rfl rfl
       obtain rfl : l9 = true := AnyOrder.dep (q := 2) hi rfl rfl rfl
       clear hi
       simp only [sel_true, selv_true] at hK ⊢
       have hkk : (k : Int) - 1 < n ∧ 0 ≤ (k : Int) - 1 := by have h1 := HKJ.out; have h2 := HKN.out; omega
       have hk0 := hkk.1
       have hk2 := hkk.2
       have hkl2 := HKN.out.2
       have hk1 : ((k : Int) - 1).toNat = j := by have h1 := HKJ.out; omega
       refine AnyOrder.wpOp_go rfl (by rfl) ?_
       go_wp2_with fail
       exact ⟨l0, l1, l2, l3, l4, l5, l6, l7, l8, true, true, l11, true, true, l14, l15, l16, l17, l18, l19, l20, l21, l22, l23, l24, rfl, rfl, HF⟩
      ·
       obtain rfl : l14 = false := (AnyOrder.mem_ready hi).2.1
       obtain rfl : l13 = true := AnyOrder.dep (q := 0) hi rfl rfl rfl
       obtain rfl : l9 = true := AnyOrder.dep (q := 1) hi rfl rfl rfl
       clear hi
       simp only [sel_true, selv_true] at hK ⊢
       refine AnyOrder.wpOp_go rfl (by rfl) ?_
       go_wp2_with fail
       exact ⟨l0, l1, l2, l3, l4, l5, l6, l7, l8, true, l10, l11, l12, true, true, l15, l16, l17, l18, l19, l20, l21, l22, l23, l24, rfl, rfl, HF⟩
      ·
       obtain rfl : l15 = false := (AnyOrder.mem_ready hi).2.1
       obtain rfl : l14 = true := AnyOrder.dep (q := 0) hi rfl rfl rfl
       obtain rfl : l9 = true := AnyOrder.dep (q := 1) hi rfl rfl rfl
       clear hi
       simp only [sel_true, selv_true] at hK ⊢
       obtain ⟨y0, y1⟩ := HY.out
       have y0 := pw_cell_below HF.out y0
       have y1 := pw_cell_below HF.out y1
       refine AnyOrder.wpOp_go rfl (by rfl) ?_
       go_wp2_with fail
       exact ⟨l0, l1, l2, l3, l4, l5, l6, l7, l8, true, l10, l11, l12, l13, true, true, l16, l17, l18, l19, l20, l21, l22, l23, l24, rfl, rfl, HF⟩
      ·
       obtain rfl : l16 = false := (AnyOrder.mem_ready hi).2.1
       obtain rfl : l9 = true := AnyOrder.dep (q := 0) hi rfl rfl rfl
       clear hi
       simp only [sel_true, selv_true] at hK ⊢
       refine AnyOrder.wpOp_go rfl (by rfl) ?_
       go_wp2_with fail
       exact ⟨l0, l1, l2, l3, l4, l5, l6, l7, l8, true, l10, l11, l12, l13, l14, l15, true, l17, l18, l19, l20, l21, l22, l23, l24, rfl, rfl, HF⟩
      ·
       obtain rfl : l17 = false := (AnyOrder.mem_ready hi).2.1
       obtain rfl : l9 = true := AnyOrder.dep (q := 0) hi rfl rfl rfl
       clear hi
       simp only [sel_true, selv_true] at hK ⊢
       refine AnyOrder.wpOp_go rfl (by rfl) ?_
       go_wp2_with fail
       exact ⟨l0, l1, l2, l3, l4, l5, l6, l7, l8, true, l10, l11, l12, l13, l14, l15, l16, true, l18, l19, l20, l21, l22, l23, l24, rfl, rfl, HF⟩
      ·
       obtain rfl : l18 = false := (AnyOrder.mem_ready hi).2.1
       obtain rfl : l16 = true := AnyOrder.dep (q := 0) hi rfl rfl rfl
       obtain rfl : l17 = true := AnyOrder.dep (q := 1) hi rfl rfl rfl
       obtain rfl : l9 = true := AnyOrder.dep (q := 2) hi rfl rfl rfl
       clear hi
       simp only [sel_true, selv_true] at hK ⊢
       have hkk := HKN.out.1
       have hkl2 := HKN.out.2
       refine AnyOrder.wpOp_go rfl (by rfl) ?_
       go_wp2_with fail
       exact ⟨l0, l1, l2, l3, l4, l5, l6, l7, l8, true, l10, l11, l12, l13, l14, l15, true, true, true, l19, l20, l21, l22, l23, l24, rfl, rfl, HF⟩
      ·
       obtain rfl : l19 = false := (AnyOrder.mem_ready hi).2.1
       obtain rfl : l18 = true := AnyOrder.dep (q := 0) hi rfl rfl rfl
       obtain rfl : l9 = true := AnyOrder.dep (q := 1) hi rfl rfl rfl
       clear hi
       simp only [sel_true, selv_true] at hK ⊢
       refine AnyOrder.wpOp_go rfl (by rfl) ?_
       go_wp2_with fail
       exact ⟨l0, l1, l2, l3, l4, l5, l6, l7, l8, true, l10, l11, l12, l13, l14, l15, l16, l17, true, true, l20, l21, l22, l23, l24, rfl, rfl, HF⟩
      ·
       obtain rfl : l20 = false := (AnyOrder.mem_ready hi).2.1
       obtain rfl : l19 = true := AnyOrder.dep (q := 0) hi rfl rfl rfl
       obtain rfl : l9 = true := AnyOrder.dep (q := 1) hi rfl rfl rfl
       clear hi
       simp only [sel_true, selv_true] at hK ⊢
       obtain ⟨g0, g1, g2, g3, g4, g5⟩ := HG.out
       have g0 := pw_cell_below HF.out g0
       have g1 := pw_cell_below HF.out g1
       have g2 := pw_cell_below HF.out g2
       have g3 := pw_cell_below HF.out g3
       have g4 := pw_cell_below HF.out g4
       have g5 := pw_cell_below HF.out g5
       refine AnyOrder.wpOp_go rfl (by rfl) ?_
       go_wp2_with fail
       exact ⟨l0, l1, l2, l3, l4, l5, l6, l7, l8, true, l10, l11, l12, l13, l14, l15, l16, l17, l18, true, true, l21, l22, l23, l24, rfl, rfl, HF⟩
      ·
       obtain rfl : l21 = false := (AnyOrder.mem_ready hi).2.1
       obtain rfl : l15 = true := AnyOrder.dep (q := 0) hi rfl rfl rfl
       obtain rfl : l20 = true := AnyOrder.dep (q := 1) hi rfl rfl rfl
       obtain rfl : l9 = true := AnyOrder.dep (q := 2) hi rfl rfl rfl
       clear hi
       simp only [sel_true, selv_true] at hK ⊢
       refine AnyOrder.wpOp_go rfl (by rfl) ?_
       go_wp2_with fail
       refine (redpencilref04_Less.calls _ _ _ _ b V (by rw [rv_less, Hb.out])).mono ?_
       rintro e V' ⟨rfl, hb⟩
       exact hK _ _ ⟨l0, l1, l2, l3, l4, l5, l6, l7, l8, true, l10, l11, l12, l13, l14, true, l16, l17, l18, l19, true, true, l22, l23, l24, rfl, rfl, ⟨below_more HF.out hb⟩⟩
      ·
       obtain rfl : l22 = false := (AnyOrder.mem_ready hi).2.1
       obtain rfl : l21 = true := AnyOrder.dep (q := 0) hi rfl rfl rfl
       obtain rfl : l9 = true := AnyOrder.dep (q := 1) hi rfl rfl rfl
       clear hi
       simp only [sel_true, selv_true] at hK ⊢
       refine AnyOrder.wpOp_go rfl (by rfl) ?_
       go_wp2_with fail
       exact ⟨l0, l1, l2, l3, l4, l5, l6, l7, l8, true, l10, l11, l12, l13, l14, l15, l16, l17, l18, l19, l20, true, true, l23, l24, rfl, rfl, HF⟩
      ·
       obtain rfl : l23 = false := (AnyOrder.mem_ready hi).2.1
       obtain rfl : l9 = true := AnyOrder.dep (q := 0) hi rfl rfl rfl
       obtain rfl : l22 = true := AnyOrder.dep (q := 1) hi rfl rfl rfl
       obtain rfl : l6 = true := AnyOrder.dep (q := 2) hi rfl rfl rfl
       clear hi
       simp only [sel_true, selv_true] at hK ⊢
       refine AnyOrder.wpOp_go rfl (by rfl) ?_
       go_wp2_with fail
       exact ⟨l0, l1, l2, l3, l4, l5, true, l7, l8, true, l10, l11, l12, l13, l14, l15, l16, l17, l18, l19, l20, l21, true, true, l24, rfl, rfl, HF⟩
      ·
       obtain rfl : l24 = false := (AnyOrder.mem_ready hi).2.1
       obtain rfl : l6 = true := AnyOrder.dep (q := 0) hi rfl rfl rfl
       obtain rfl : l23 = true := AnyOrder.dep (q := 1) hi rfl rfl rfl
       clear hi
       simp only [sel_true, selv_true] at hK ⊢
       refine AnyOrder.wpOp_go rfl (by rfl) ?_
       go_wp2_with fail
       exact ⟨l0, l1, l2, l3, l4, l5, true, l7, l8, l9, l10, l11, l12, l13, l14, l15, l16, l17, l18, l19, l20, l21, l22, true, true, rfl, rfl, HF⟩
     case last =>
      rintro L ac V ⟨l0, l1, l2, l3, l4, l5, l6, l7, l8, l9, l10, l11, l12, l13, l14, l15, l16, l17, l18, l19, l20, l21, l22, l23, l24, rfl, rfl, HF⟩ hr
      have hall := AnyOrder.all_listed rfl (by kernel_rfl) hr
      clear hr
      obtain rfl : l0 = true := hall 0 (by decide)
      obtain rfl : l1 = true := hall 1 (by decide)
      obtain rfl : l2 = true := hall 2 (by decide)
      obtain rfl : l3 = true := hall 3 (by decide)
      obtain rfl : l4 = true := hall 4 (by decide)
      obtain rfl : l5 = true := hall 5 (by decide)
      obtain rfl : l6 = true := hall 6 (by decide)
      obtain rfl : l7 = true := hall 7 (by decide)
      obtain rfl : l8 = true := hall 8 (by decide)
      obtain rfl : l9 = true := hall 9 (by decide)
      obtain rfl : l10 = true := hall 10 (by decide)
      obtain rfl : l11 = true := hall 11 (by decide)
      obtain rfl : l12 = true := hall 12 (by decide)
      obtain rfl : l13 = true := hall 13 (by decide)
      obtain rfl : l14 = true := hall 14 (by decide)
      obtain rfl : l15 = true := hall 15 (by decide)
      obtain rfl : l16 = true := hall 16 (by decide)
      obtain rfl : l17 = true := hall 17 (by decide)
      obtain rfl : l18 = true := hall 18 (by decide)
      obtain rfl : l19 = true := hall 19 (by decide)
      obtain rfl : l20 = true := hall 20 (by decide)
      obtain rfl : l21 = true := hall 21 (by decide)
      obtain rfl : l22 = true := hall 22 (by decide)
      obtain rfl : l23 = true := hall 23 (by decide)
      obtain rfl : l24 = true := hall 24 (by decide)
      clear hall
      simp only [sel_true, selv_true]
      have HB2 := Aside0.mk (below_more HB9.out HF.out)
      clear HF
      cases b with
      | true =>
       go_wp2
       go_roundw
       case rel => exact ⟨k + 1, by omega, by go_num, HST, HB2⟩
       case measure => simp [intOf] <;> omega
      | false =>
       have HEND : Aside0 (r = false) := ⟨by rw [← HRES.out]; exact storeOk_take HST.out⟩
       go_wp2
       go_ret
       exact ⟨by rw [HEND.out]; rfl, HB2.out⟩
  ·
   obtain rfl : k = n := by omega
   have hltb : decide ((k : Int) < (k : Int)) = false := decide_eq_false (by omega)
   have HEND : Aside0 (r = true) := ⟨by rw [← HRES.out, ← HOK.out, List.take_of_length_le (Nat.le_of_eq Hn.out)]⟩
   go_wp2
   go_ret
   exact ⟨by rw [HEND.out]; rfl, HB.out⟩
end
end Go.Proofs.YtjlpaagnajmogaaGreat.PWalk
end
section
namespace Go.Proofs.YtjlpaagnajmogaaGreat.PWalk
end Go.Proofs.YtjlpaagnajmogaaGreat.PWalk
end
section
namespace Go.Proofs.YtjlpaagnajmogaaGreat.PWalk
end Go.Proofs.YtjlpaagnajmogaaGreat.PWalk
end
section
namespace Go.Proofs.YtjlpaagnajmogaaGreat.PWalk
open Go.RowKit Go.Proofs.YtjlpaagnajmogaaGreatW.PrintWords Go.Proofs.YtjlpaagnajmogaaGreatW.PrintLast Go.Proofs.YtjlpaagnajmogaaGreatW.PrintMore
set_option linter.unusedVariables false
set_option linter.unusedSimpArgs false
open Go.Shelf
attribute [local go_sem] Oper.semAt_some
def redpencilref11_Children.f (l0 : List Node) (a1_0 a1_1 : Int) : Option (List Node) := if l0.length ≤ 400000 then some (kids l0 ⟨a1_0, a1_1⟩) else none
/-- What has come up in the triple append. -/
structure RcF (W0 : World) (out : List Node) (x : Node) (k : Nat) (l0 l3 l8 l9 l10 l13 l14 : Bool) (g : Nat) (v1 v2 v3 : Value) (V : World) : Prop where
 ord9 : l9 = true → l3 = true ∧ l8 = true
 ord13 : l13 = true → l9 = true
 ord14 : l14 = true → l13 = true ∧ l0 = true ∧ l10 = true
 below : Below W0.heap.size W0 V
 r1 : l3 = true → l9 = false → RN V W0.heap.size v1 (out.take k)
 bx : l8 = true → l9 = false → V.heap[g]? = some (boxN x)
 r2 : l9 = true → l13 = false → RN V W0.heap.size v2 (out.take k ++ [x])
 r3 : l13 = true → RN V W0.heap.size v3 (insB x out)
theorem RcF.no {W0 : World} {out : List Node} {x : Node} {k : Nat} {l0 l3 l8 l9 l10 l13 l14 : Bool} {g : Nat} {v1 v2 v3 : Value} {V : World} (h : RcF W0 out x k l0 l3 l8 l9 l10 l13 l14 g v1 v2 v3 V) (hl : l3 = false ∨ l8 = false) : l9 = false ∧ l13 = false ∧ l14 = false := by
 have h9 : l9 = false := by
  cases l9 with
  | false => rfl
  | true => obtain ⟨rfl, rfl⟩ := h.ord9 rfl; rcases hl with e | e <;> cases e
 have h13 : l13 = false := by
  cases l13 with
  | false => rfl
  | true => have := h.ord13 rfl; rw [h9] at this; cases this
 refine ⟨h9, h13, ?_⟩
 cases l14 with
 | false => rfl
 | true => have := (h.ord14 rfl).1; rw [h13] at this; cases this
def rc7Inv (W0 : World) (ad : Addr) (ado : Addr) (n c0 i' k no co : Nat) (x y : Node) (b1 b2 : Bool) (z1 z2 z3 z4 z8 z9 z10 z11 z12 z13 z14 z15 z16 z17 z18 z19 z20 z21 z22 z23 z24 z25 z26 z27 z28 z29 z30 z31 z32 z33 z34 z35 z36 z37 z38 z39 z40 z41 z42 z43 z44 z45 z46 z47 z48 z49 z50 z51 z52 : Value) (L : Array Bool) (ac : Act) (V : World) : Prop := ∃ (l0 l1 l2 l3 l4 l5 l6 l7 l8 l9 l10 l11 l12 l13 l14 : Bool), L = #[l0, l1, l2, l3, l4, l5, l6, l7, l8, l9, l10, l11, l12, l13, l14] ∧ ac = { tmps := #[.slice (some ad) n c0, z1, z2, z3, z4, .slice (some ado) no co, .int .i64 (i' : Int), .int .i64 (k : Int), z8, z9, z10, z11, z12, z13, z14, z15, z16, z17, z18, z19, z20, selv l0 (.int .i64 (k : Int)) (z21), selv l1 (.slice (some ado) no co) (z22), selv l2 (.int .i64 (no : Int)) (z23), selv l3 (.bool b1) (z24), selv l4 (.bool b1) (z25), selv l5 (.slice (some ado) no co) (z26), selv l6 (.int .i64 (k : Int)) (z27), selv l7 (.pointer (some (ado.add (k * 6)))) (z28), selv l8 (vNode y) (z29), selv l9 (.slice (some ad) n c0) (z30), selv l10 (.int .i64 (i' : Int)) (z31), selv l11 (.pointer (some (ad.add (i' * 6)))) (z32), selv l12 (vNode x) (z33), selv l13 (.bool b2) (z34), selv l14 (.bool b2) (z35), z36, z37, z38, z39, z40, z41, z42, z43, z44, z45, z46, z47, z48, z49, z50, z51, z52], defers := [] } ∧ Aside0 (Below W0.heap.size W0 V)
def rc7eInv (W0 : World) (ad : Addr) (Ao : Option Addr) (n c0 i' k no co : Nat) (x y : Node) (b1 b2 : Bool) (z1 z2 z3 z4 z8 z9 z10 z11 z12 z13 z14 z15 z16 z17 z18 z19 z20 z21 z22 z23 z24 z25 z26 z27 z28 z29 z30 z31 z32 z33 z34 z35 z36 z37 z38 z39 z40 z41 z42 z43 z44 z45 z46 z47 z48 z49 z50 z51 z52 : Value) (L : Array Bool) (ac : Act) (V : World) : Prop := ∃ (l0 l1 l2 l3 l4 l5 l6 l7 l8 l9 l10 l11 l12 l13 l14 : Bool), L = #[l0, l1, l2, l3, l4, l5, l6, l7, l8, l9, l10, l11, l12, l13, l14] ∧ ac = { tmps := #[.slice (some ad) n c0, z1, z2, z3, z4, .slice Ao no co, .int .i64 (i' : Int), .int .i64 (k : Int), z8, z9, z10, z11, z12, z13, z14, z15, z16, z17, z18, z19, z20, selv l0 (.int .i64 (k : Int)) (z21), selv l1 (.slice Ao no co) (z22), selv l2 (.int .i64 (no : Int)) (z23), selv l3 (.bool b1) (z24), selv l4 (.bool b1) (z25), selv l5 (undef) (z26), selv l6 (undef) (z27), selv l7 (undef) (z28), selv l8 (undef) (z29), selv l9 (undef) (z30), selv l10 (undef) (z31), selv l11 (undef) (z32), selv l12 (undef) (z33), selv l13 (undef) (z34), selv l14 (.bool b2) (z35), z36, z37, z38, z39, z40, z41, z42, z43, z44, z45, z46, z47, z48, z49, z50, z51, z52], defers := [] } ∧ Aside0 (Below W0.heap.size W0 V)
def rc9Inv (W0 : World) (ad : Addr) (Ao Ac : Option Addr) (n c0 i' k no co m3 q3 : Nat) (x : Node) (out : List Node) (z1 z2 z3 z4 z8 z9 z10 z11 z12 z13 z14 z15 z16 z17 z18 z19 z20 z21 z22 z23 z24 z25 z26 z27 z28 z29 z30 z31 z32 z33 z34 z35 z36 z37 z38 z39 z40 z41 z42 z43 z44 z45 z46 z47 z48 z49 z50 z51 z52 : Value) (L : Array Bool) (ac : Act) (V : World) : Prop := ∃ (l0 l1 l2 l3 l4 l5 l6 l7 l8 l9 l10 l11 l12 l13 l14 : Bool) (g : Nat) (v1 : Value) (v2 : Value) (v3 : Value), L = #[l0, l1, l2, l3, l4, l5, l6, l7, l8, l9, l10, l11, l12, l13, l14] ∧ ac = { tmps := #[.slice (some ad) n c0, z1, z2, z3, z4, selv l14 (v3) (.slice Ao no co), .int .i64 (i' : Int), .int .i64 (k : Int), z8, z9, z10, z11, z12, z13, z14, z15, z16, z17, z18, z19, z20, z21, z22, z23, z24, z25, z26, z27, z28, z29, z30, z31, z32, z33, z34, z35, z36, z37, selv l0 (.slice Ao no co) (z38), selv l1 (.int .i64 (k : Int)) (z39), selv l2 (.slice Ao k co) (z40), selv l3 (v1) (z41), selv l4 (.slice (some ad) n c0) (z42), selv l5 (.int .i64 (i' : Int)) (z43), selv l6 (.pointer (some (ad.add (i' * 6)))) (z44), selv l7 (vNode x) (z45), selv l8 (.slice (some ⟨g, 0, none⟩) 1 1) (z46), selv l9 (v2) (z47), selv l10 (.slice Ao no co) (z48), selv l11 (.int .i64 (k : Int)) (z49), selv l12 (.slice Ac m3 q3) (z50), selv l13 (v3) (z51), z52], defers := [] } ∧ Aside0 (RcF W0 out x k l0 l3 l8 l9 l10 l13 l14 g v1 v2 v3 V)
attribute [local go_sem high] eqA35 eqA24
set_option maxHeartbeats 4000000 in
set_option maxRecDepth 100000 in
theorem redpencilref11_Children.calls (A0 : Option Addr) (c0 : Nat) (l0 : List Node) (a1_0 a1_1 : Int) (r : List Node) (w : World) (hr0 : Kd.C k35 w A0 l0.length l0) (hc0 : l0.length ≤ c0) (h : redpencilref11_Children.f l0 a1_0 a1_1 = some r) :
  Calls Tryz.prog 19 #[.slice A0 l0.length c0, .agg #[.int .i64 a1_0, .int .i64 a1_1]] w fun e w' => ∃ v0_ : Value, e = .returned v0_ ∧ Kd.R k35 35 w' w.heap.size (fun _ => True) v0_ r ∧ Below w.heap.size w w' := by
 obtain ⟨d, hd⟩ : ∃ d : Dot, d = ⟨a1_0, a1_1⟩ := ⟨_, rfl⟩
 unfold redpencilref11_Children.f at h
 rw [← hd] at h
 rw [show a1_0 = d.f0 by rw [hd], show a1_1 = d.f1 by rw [hd]]
 clear hd
 by_cases hl : l0.length ≤ 400000
 rotate_left
 ·
  rw [if_neg hl] at h; cases h
 rw [if_pos hl] at h
 obtain rfl := Option.some.inj h
 have HR := Aside0.mk hr0
 have HL := Aside0.mk hl
 have HB0 := Aside0.mk (Gr.alloc w (dotC d)).below
 have HK0 := Aside0.mk (blk_new w (dotC d))
 clear h hr0 hc0 hl
 obtain ⟨n, Hn⟩ : ∃ n, Aside0 (l0.length = n) := ⟨_, ⟨rfl⟩⟩
 rw [Hn.out]
 have hn4 : n ≤ 400000 := by rw [← Hn.out]; exact HL.out
 go_enter Tryz.func19, Tryz.ntmps19
 go_wp2
 generalize w.alloc (dotC d) = W1 at *
 obtain ⟨B, HBe⟩ : ∃ B, Aside0 (w.heap.size = B) := ⟨_, ⟨rfl⟩⟩
 rw [HBe.out] at HK0
 rw [show (Value.pointer (some { block := w.heap.size, off := 0 })) = .pointer (some ⟨B, 0, none⟩) by rw [HBe.out]]
 go_loopw [5, 6] (fun o i wr => ∃ (i' : Nat) (Ao : Option Addr) (no co : Nat), i' ≤ n ∧ i = .int .i64 i' ∧ o = .slice Ao no co ∧ Aside0 (RN wr w.heap.size (.slice Ao no co) (kids (l0.take i') d)) ∧ Aside0 (wr.heap[B]? = some (dotC d)) ∧ Aside0 (Below w.heap.size w wr)) (fun _ i _ => n - (intOf i).toNat)
 case atStart => exact ⟨0, none, 0, 0, Nat.zero_le _, rfl, rfl, ⟨Kd.R_nil _ _ _ _ _⟩, HK0, HB0⟩
 case round =>
  obtain ⟨i', Ao, no, co, hi', rfl, rfl, HO, HK, HB⟩ := hrel
  by_cases hlt : i' < n
  ·
   have hltb : decide ((i' : Int) < (n : Int)) = true := decide_eq_true (by omega)
   obtain ⟨x, Hx⟩ : ∃ x, Aside0 (l0[i']? = some x) := ⟨_, ⟨List.getElem?_eq_getElem (by rw [Hn.out]; exact hlt)⟩⟩
   obtain ⟨ad, e, g0, g1, g2, g3, g4, g5⟩ := node_at HR.out HB.out i' x Hx.out
   subst e
   have k0 : wr.cell? ⟨B, 0, none⟩ = _ := (blk_cell HK.out 0).trans rfl
   have k1 : wr.cell? ⟨B, 1, none⟩ = _ := (blk_cell HK.out 1).trans rfl
   have HST : Aside0 (kids (l0.take (i' + 1)) d = if x.f1 = d then insB x (kids (l0.take i') d) else kids (l0.take i') d) := ⟨kids_take_succ Hx.out⟩
   have HOC := Aside0.mk (RN.C HO.out)
   have HNO : Aside0 (no ≤ 400000) := ⟨by have h1 := HOC.out.1; have h2 := kids_le (l0.take i') d; rw [List.length_take] at h2; omega⟩
   by_cases hxd : x.f1 = d
   ·
    have hne : (x.f1.f0 == d.f0 && (x.f1.f1 == d.f1)) = true := by rw [hxd]; simp
    have HXD := Aside0.mk hxd
    go_wp2
    go_quiet (fail)
    have hdq := (Gr.drawn (w := wr) ⟨nq, rfl⟩).below
    go_wp2
    clear hxd hne k0 k1 g0 g1 g2 g3 g4 g5
    have HHB := Aside0.mk (below_more HB.out hdq)
    have HHO := Aside0.mk (RN.below' HO.out hdq)
    have HHK := Aside0.mk (blk_keep HK.out hdq)
    have HHd := Aside0.mk hdq
    rw [if_pos HXD.out] at HST
    have HXI : Aside0 (i' < n ∧ n ≤ 400000) := ⟨hlt, hn4⟩
    clear hdq
    generalize wr.drewN nq = W2 at *
    go_loopw [7] (fun j wr => ∃ k : Nat, k ≤ no ∧ j = .int .i64 k ∧ Aside0 (∀ q y, q < k → (kids (l0.take i') d)[q]? = some y → nodeLt y x = true) ∧ Aside0 (Below W2.heap.size W2 wr)) (fun j _ => no - (intOf j).toNat)
    case atStart => exact ⟨0, Nat.zero_le _, rfl, ⟨fun q y hq => absurd hq (Nat.not_lt_zero _)⟩, ⟨Below.refl _ _⟩⟩
    case round =>
     obtain ⟨k, hk, rfl, HPRE, HB2⟩ := hrel
     by_cases hkl : k < no
     ·
      obtain ⟨y, Hy⟩ : ∃ y, Aside0 ((kids (l0.take i') d)[k]? = some y) := ⟨_, ⟨List.getElem?_eq_getElem (by rw [HOC.out.1]; exact hkl)⟩⟩
      obtain ⟨ado, e, y0, y1, y2, y3, y4, y5⟩ := node_at (RN.C HHO.out).2.2 HB2.out k y Hy.out
      subst e
      obtain ⟨ad', e, g0, g1, g2, g3, g4, g5⟩ := node_at HR.out (below_more HHB.out HB2.out) i' x Hx.out
      cases e
      have HY := Aside0.mk (And.intro y0 (And.intro y1 (And.intro y2 (And.intro y3 (And.intro y4 y5)))))
      have HG := Aside0.mk (And.intro g0 (And.intro g1 (And.intro g2 (And.intro g3 (And.intro g4 g5)))))
      have HKN : Aside0 (k < no ∧ no ≤ 400000) := ⟨hkl, HNO.out⟩
      clear y0 y1 y2 y3 y4 y5 g0 g1 g2 g3 g4 g5
      obtain ⟨b, Hb⟩ : ∃ b, Aside0 (nodeLt y x = b) := ⟨_, ⟨rfl⟩⟩
      cases b with
      | true =>
       go_wp2
       refine AnyOrder.wp_region (by kernel_rfl) (rc7Inv wr.drew ad ado n c0 i' k no co x y true true _ _ _ _ _ _ _ _ _ _ _ _ _ _ _ _ _ _ _ _ _ _ _ _ _ _ _ _ _ _ _ _ _ _ _ _ _ _ _ _ _ _ _ _ _ _ _ _ _) ⟨false, false, false, false, false, false, false, false, false, false, false, false, false, false, false, rfl, rfl, ⟨Below.refl _ _⟩⟩ ?step ?last
       case step =>
        rintro L ac V i ⟨l0, l1, l2, l3, l4, l5, l6, l7, l8, l9, l10, l11, l12, l13, l14, rfl, rfl, HF⟩ hi K hK
        have h1 : i = 0 ∨ i = 1 ∨ i = 2 ∨ i = 3 ∨ i = 4 ∨ i = 5 ∨ i = 6 ∨ i = 7 ∨ i = 8 ∨ i = 9 ∨ i = 10 ∨ i = 11 ∨ i = 12 ∨ i = 13 ∨ i = 14 := by
         have h1 := (AnyOrder.mem_ready hi).1
         clear hi hK
         change i < 15 at h1
         omega
        rcases h1 with rfl | rfl | rfl | rfl | rfl | rfl | rfl | rfl | rfl | rfl | rfl | rfl | rfl | rfl | rfl
        ·
         obtain rfl : l0 = false := (AnyOrder.mem_ready hi).2.1
         clear hi
         refine AnyOrder.wpOp_go rfl (by rfl) ?_
         go_wp2_with fail
         exact ⟨true, l1, l2, l3, l4, l5, l6, l7, l8, l9, l10, l11, l12, l13, l14, rfl, rfl, HF⟩
        ·
         obtain rfl : l1 = false := (AnyOrder.mem_ready hi).2.1
         clear hi
         refine AnyOrder.wpOp_go rfl (by rfl) ?_
         go_wp2_with fail
         exact ⟨l0, true, l2, l3, l4, l5, l6, l7, l8, l9, l10, l11, l12, l13, l14, rfl, rfl, HF⟩
        ·
         obtain rfl : l2 = false := (AnyOrder.mem_ready hi).2.1
         obtain rfl : l1 = true := AnyOrder.dep (q := 0) hi rfl rfl rfl
         clear hi
         simp only [sel_true, selv_true] at hK ⊢
         refine AnyOrder.wpOp_go rfl (by rfl) ?_
         go_wp2_with fail
         exact ⟨l0, true, true, l3, l4, l5, l6, l7, l8, l9, l10, l11, l12, l13, l14, rfl, rfl, HF⟩
        ·
         obtain rfl : l3 = false := (AnyOrder.mem_ready hi).2.1
         obtain rfl : l0 = true := AnyOrder.dep (q := 0) hi rfl rfl rfl
         obtain rfl : l2 = true := AnyOrder.dep (q := 1) hi rfl rfl rfl
         clear hi
         simp only [sel_true, selv_true] at hK ⊢
         have hdec : decide ((k : Int) < (no : Int)) = true := decide_eq_true (by omega)
         refine AnyOrder.wpOp_go rfl (by rfl) ?_
         go_wp2_with fail
         exact ⟨true, l1, true, true, l4, l5, l6, l7, l8, l9, l10, l11, l12, l13, l14, rfl, rfl, HF⟩
        ·
         obtain rfl : l4 = false := (AnyOrder.mem_ready hi).2.1
         obtain rfl : l3 = true := AnyOrder.dep (q := 0) hi rfl rfl rfl
         clear hi
         simp only [sel_true, selv_true] at hK ⊢
         refine AnyOrder.wpOp_go rfl (by rfl) ?_
         go_wp2_with fail
         exact ⟨l0, l1, l2, true, true, l5, l6, l7, l8, l9, l10, l11, l12, l13, l14, rfl, rfl, HF⟩
        ·
         obtain rfl : l5 = false := (AnyOrder.mem_ready hi).2.1
         obtain rfl : l4 = true := AnyOrder.dep (q := 0) hi rfl rfl rfl
         clear hi
         simp only [sel_true, selv_true] at hK ⊢
         refine AnyOrder.wpOp_go rfl (by rfl) ?_
         go_wp2_with fail
         exact ⟨l0, l1, l2, l3, true, true, l6, l7, l8, l9, l10, l11, l12, l13, l14, rfl, rfl, HF⟩
        ·
         obtain rfl : l6 = false := (AnyOrder.mem_ready hi).2.1
         obtain rfl : l4 = true := AnyOrder.dep (q := 0) hi rfl rfl rfl
         clear hi
         simp only [sel_true, selv_true] at hK ⊢
         refine AnyOrder.wpOp_go rfl (by rfl) ?_
         go_wp2_with fail
         exact ⟨l0, l1, l2, l3, true, l5, true, l7, l8, l9, l10, l11, l12, l13, l14, rfl, rfl, HF⟩
        ·
         obtain rfl : l7 = false := (AnyOrder.mem_ready hi).2.1
         obtain rfl : l5 = true := AnyOrder.dep (q := 0) hi rfl rfl rfl
         obtain rfl : l6 = true := AnyOrder.dep (q := 1) hi rfl rfl rfl
         obtain rfl : l4 = true := AnyOrder.dep (q := 2) hi rfl rfl rfl
         clear hi
         simp only [sel_true, selv_true] at hK ⊢
         have hkk := HKN.out.1
         have hkl2 := HKN.out.2
         refine AnyOrder.wpOp_go rfl (by rfl) ?_
         go_wp2_with fail
         exact ⟨l0, l1, l2, l3, true, true, true, true, l8, l9, l10, l11, l12, l13, l14, rfl, rfl, HF⟩
        ·
         obtain rfl : l8 = false := (AnyOrder.mem_ready hi).2.1
         obtain rfl : l7 = true := AnyOrder.dep (q := 0) hi rfl rfl rfl
         obtain rfl : l4 = true := AnyOrder.dep (q := 1) hi rfl rfl rfl
         clear hi
         simp only [sel_true, selv_true] at hK ⊢
         obtain ⟨y0, y1, y2, y3, y4, y5⟩ := HY.out
         have y0 := pw_cell_below HF.out y0
         have y1 := pw_cell_below HF.out y1
         have y2 := pw_cell_below HF.out y2
         have y3 := pw_cell_below HF.out y3
         have y4 := pw_cell_below HF.out y4
         have y5 := pw_cell_below HF.out y5
         refine AnyOrder.wpOp_go rfl (by rfl) ?_
         go_wp2_with fail
         exact ⟨l0, l1, l2, l3, true, l5, l6, true, true, l9, l10, l11, l12, l13, l14, rfl, rfl, HF⟩
        ·
         obtain rfl : l9 = false := (AnyOrder.mem_ready hi).2.1
         obtain rfl : l4 = true := AnyOrder.dep (q := 0) hi rfl rfl rfl
         clear hi
         simp only [sel_true, selv_true] at hK ⊢
         refine AnyOrder.wpOp_go rfl (by rfl) ?_
         go_wp2_with fail
         exact ⟨l0, l1, l2, l3, true, l5, l6, l7, l8, true, l10, l11, l12, l13, l14, rfl, rfl, HF⟩
        ·
         obtain rfl : l10 = false := (AnyOrder.mem_ready hi).2.1
         obtain rfl : l4 = true := AnyOrder.dep (q := 0) hi rfl rfl rfl
         clear hi
         simp only [sel_true, selv_true] at hK ⊢
         refine AnyOrder.wpOp_go rfl (by rfl) ?_
         go_wp2_with fail
         exact ⟨l0, l1, l2, l3, true, l5, l6, l7, l8, l9, true, l11, l12, l13, l14, rfl, rfl, HF⟩
        ·
         obtain rfl : l11 = false := (AnyOrder.mem_ready hi).2.1
         obtain rfl : l9 = true := AnyOrder.dep (q := 0) hi rfl rfl rfl
         obtain rfl : l10 = true := AnyOrder.dep (q := 1) hi rfl rfl rfl
         obtain rfl : l4 = true := AnyOrder.dep (q := 2) hi rfl rfl rfl
         clear hi
         simp only [sel_true, selv_true] at hK ⊢
         have hkk := HXI.out.1
         have hkl2 := HXI.out.2
         refine AnyOrder.wpOp_go rfl (by rfl) ?_
         go_wp2_with fail
         exact ⟨l0, l1, l2, l3, true, l5, l6, l7, l8, true, true, true, l12, l13, l14, rfl, rfl, HF⟩
        ·
         obtain rfl : l12 = false := (AnyOrder.mem_ready hi).2.1
         obtain rfl : l11 = true := AnyOrder.dep (q := 0) hi rfl rfl rfl
         obtain rfl : l4 = true := AnyOrder.dep (q := 1) hi rfl rfl rfl
         clear hi
         simp only [sel_true, selv_true] at hK ⊢
         obtain ⟨g0, g1, g2, g3, g4, g5⟩ := HG.out
         have g0 := pw_cell_below HF.out g0
         have g1 := pw_cell_below HF.out g1
         have g2 := pw_cell_below HF.out g2
         have g3 := pw_cell_below HF.out g3
         have g4 := pw_cell_below HF.out g4
         have g5 := pw_cell_below HF.out g5
         refine AnyOrder.wpOp_go rfl (by rfl) ?_
         go_wp2_with fail
         exact ⟨l0, l1, l2, l3, true, l5, l6, l7, l8, l9, l10, true, true, l13, l14, rfl, rfl, HF⟩
        ·
         obtain rfl : l13 = false := (AnyOrder.mem_ready hi).2.1
         obtain rfl : l8 = true := AnyOrder.dep (q := 0) hi rfl rfl rfl
         obtain rfl : l12 = true := AnyOrder.dep (q := 1) hi rfl rfl rfl
         obtain rfl : l4 = true := AnyOrder.dep (q := 2) hi rfl rfl rfl
         clear hi
         simp only [sel_true, selv_true] at hK ⊢
         refine AnyOrder.wpOp_go rfl (by rfl) ?_
         go_wp2_with fail
         refine (redpencilref09_Before.calls _ _ _ _ _ _ _ _ _ _ _ _ true V (by rw [before_is, Hb.out])).mono ?_
         rintro e V' ⟨rfl, hb⟩
         exact hK _ _ ⟨l0, l1, l2, l3, true, l5, l6, l7, true, l9, l10, l11, true, true, l14, rfl, rfl, ⟨below_more HF.out hb⟩⟩
        ·
         obtain rfl : l14 = false := (AnyOrder.mem_ready hi).2.1
         obtain rfl : l4 = true := AnyOrder.dep (q := 0) hi rfl rfl rfl
         obtain rfl : l13 = true := AnyOrder.dep (q := 1) hi rfl rfl rfl
         clear hi
         simp only [sel_true, selv_true] at hK ⊢
         refine AnyOrder.wpOp_go rfl (by rfl) ?_
         go_wp2_with fail
         exact ⟨l0, l1, l2, l3, true, l5, l6, l7, l8, l9, l10, l11, l12, true, true, rfl, rfl, HF⟩
       case last =>
        rintro L ac V ⟨l0, l1, l2, l3, l4, l5, l6, l7, l8, l9, l10, l11, l12, l13, l14, rfl, rfl, HF⟩ hr
        have hall := AnyOrder.all_listed rfl (by kernel_rfl) hr
        clear hr
        obtain rfl : l0 = true := hall 0 (by decide)
        obtain rfl : l1 = true := hall 1 (by decide)
        obtain rfl : l2 = true := hall 2 (by decide)
        obtain rfl : l3 = true := hall 3 (by decide)
        obtain rfl : l4 = true := hall 4 (by decide)
        obtain rfl : l5 = true := hall 5 (by decide)
        obtain rfl : l6 = true := hall 6 (by decide)
        obtain rfl : l7 = true := hall 7 (by decide)
        obtain rfl : l8 = true := hall 8 (by decide)
        obtain rfl : l9 = true := hall 9 (by decide)
        obtain rfl : l10 = true := hall 10 (by decide)
        obtain rfl : l11 = true := hall 11 (by decide)
        obtain rfl : l12 = true := hall 12 (by decide)
        obtain rfl : l13 = true := hall 13 (by decide)
        obtain rfl : l14 = true := hall 14 (by decide)
        clear hall
        simp only [sel_true, selv_true]
        have HHF := Aside0.mk (below_more (below_drew1 HB2.out) HF.out)
        have hno4 := HNO.out
        go_wp2
        go_roundw
        case rel => exact ⟨k + 1, by omega, by go_num, ⟨fun q z hq hz => by rcases Nat.lt_succ_iff_lt_or_eq.1 hq with h | h; exact HPRE.out q z h hz; subst h; rw [Hy.out] at hz; cases hz; exact Hb.out⟩, HHF⟩
        case measure => simp [intOf] <;> omega
      | false =>
       have HCUT : Aside0 (insB x (kids (l0.take i') d) = (kids (l0.take i') d).take k ++ [x] ++ (kids (l0.take i') d).drop k) := ⟨by rw [insB_cut, cutN_is (k := k) (by rw [HOC.out.1]; exact hk) HPRE.out (fun z hz => by rw [Hy.out] at hz; cases hz; exact Hb.out)]; simp⟩
       go_wp2
       refine AnyOrder.wp_region (by kernel_rfl) (rc7Inv wr.drew ad ado n c0 i' k no co x y true false _ _ _ _ _ _ _ _ _ _ _ _ _ _ _ _ _ _ _ _ _ _ _ _ _ _ _ _ _ _ _ _ _ _ _ _ _ _ _ _ _ _ _ _ _ _ _ _ _) ⟨false, false, false, false, false, false, false, false, false, false, false, false, false, false, false, rfl, rfl, ⟨Below.refl _ _⟩⟩ ?step ?last
       case step =>
        rintro L ac V i ⟨l0, l1, l2, l3, l4, l5, l6, l7, l8, l9, l10, l11, l12, l13, l14, rfl, rfl, HF⟩ hi K hK
        have h1 : i = 0 ∨ i = 1 ∨ i = 2 ∨ i = 3 ∨ i = 4 ∨ i = 5 ∨ i = 6 ∨ i = 7 ∨ i = 8 ∨ i = 9 ∨ i = 10 ∨ i = 11 ∨ i = 12 ∨ i = 13 ∨ i = 14 := by
         have h1 := (AnyOrder.mem_ready hi).1
         clear hi hK
         change i < 15 at h1
         omega
        rcases h1 with rfl | rfl | rfl | rfl | rfl | rfl | rfl | rfl | rfl | rfl | rfl | rfl | rfl | rfl | rfl
        ·
         obtain rfl : l0 = false := (AnyOrder.mem_ready hi).2.1
         clear hi
         refine AnyOrder.wpOp_go rfl (by rfl) ?_
         go_wp2_with fail
         exact ⟨true, l1, l2, l3, l4, l5, l6, l7, l8, l9, l10, l11, l12, l13, l14, rfl, rfl, HF⟩
        ·
         obtain rfl : l1 = false := (AnyOrder.mem_ready hi).2.1
         clear hi
         refine AnyOrder.wpOp_go rfl (by rfl) ?_
         go_wp2_with fail
         exact ⟨l0, true, l2, l3, l4, l5, l6, l7, l8, l9, l10, l11, l12, l13, l14, rfl, rfl, HF⟩
        ·
         obtain rfl : l2 = false := (AnyOrder.mem_ready hi).2.1
         obtain rfl : l1 = true := AnyOrder.dep (q := 0) hi rfl rfl rfl
         clear hi
         simp only [sel_true, selv_true] at hK ⊢
         refine AnyOrder.wpOp_go rfl (by rfl) ?_
         go_wp2_with fail
         exact ⟨l0, true, true, l3, l4, l5, l6, l7, l8, l9, l10, l11, l12, l13, l14, rfl, rfl, HF⟩
        ·
         obtain rfl : l3 = false := (AnyOrder.mem_ready hi).2.1
         obtain rfl : l0 = true := AnyOrder.dep (q := 0) hi rfl rfl rfl
         obtain rfl : l2 = true := AnyOrder.dep (q := 1) hi rfl rfl rfl
         clear hi
         simp only [sel_true, selv_true] at hK ⊢
         have hdec : decide ((k : Int) < (no : Int)) = true := decide_eq_true (by omega)
         refine AnyOrder.wpOp_go rfl (by rfl) ?_
         go_wp2_with fail
         exact ⟨true, l1, true, true, l4, l5, l6, l7, l8, l9, l10, l11, l12, l13, l14, rfl, rfl, HF⟩
        ·
         obtain rfl : l4 = false := (AnyOrder.mem_ready hi).2.1
         obtain rfl : l3 = true := AnyOrder.dep (q := 0) hi rfl rfl rfl
         clear hi
         simp only [sel_true, selv_true] at hK ⊢
         refine AnyOrder.wpOp_go rfl (by rfl) ?_
         go_wp2_with fail
         exact ⟨l0, l1, l2, true, true, l5, l6, l7, l8, l9, l10, l11, l12, l13, l14, rfl, rfl, HF⟩
        ·
         obtain rfl : l5 = false := (AnyOrder.mem_ready hi).2.1
         obtain rfl : l4 = true := AnyOrder.dep (q := 0) hi rfl rfl rfl
         clear hi
         simp only [sel_true, selv_true] at hK ⊢
         refine AnyOrder.wpOp_go rfl (by rfl) ?_
         go_wp2_with fail
         exact ⟨l0, l1, l2, l3, true, true, l6, l7, l8, l9, l10, l11, l12, l13, l14, rfl, rfl, HF⟩
        ·
         obtain rfl : l6 = false := (AnyOrder.mem_ready hi).2.1
         obtain rfl : l4 = true := AnyOrder.dep (q := 0) hi rfl rfl rfl
         clear hi
         simp only [sel_true, selv_true] at hK ⊢
         refine AnyOrder.wpOp_go rfl (by rfl) ?_
         go_wp2_with fail
         exact ⟨l0, l1, l2, l3, true, l5, true, l7, l8, l9, l10, l11, l12, l13, l14, rfl, rfl, HF⟩
        ·
         obtain rfl : l7 = false := (AnyOrder.mem_ready hi).2.1
         obtain rfl : l5 = true := AnyOrder.dep (q := 0) hi rfl rfl rfl
         obtain rfl : l6 = true := AnyOrder.dep (q := 1) hi rfl rfl rfl
         obtain rfl : l4 = true := AnyOrder.dep (q := 2) hi rfl rfl rfl
         clear hi
         simp only [sel_true, selv_true] at hK ⊢
         have hkk := HKN.out.1
         have hkl2 := HKN.out.2
         refine AnyOrder.wpOp_go rfl (by rfl) ?_
         go_wp2_with fail
         exact ⟨l0, l1, l2, l3, true, true, true, true, l8, l9, l10, l11, l12, l13, l14, rfl, rfl, HF⟩
        ·
         obtain rfl : l8 = false := (AnyOrder.mem_ready hi).2.1
         obtain rfl : l7 = true := AnyOrder.dep (q := 0) hi rfl rfl rfl
         obtain rfl : l4 = true := AnyOrder.dep (q := 1) hi rfl rfl rfl
         clear hi
         simp only [sel_true, selv_true] at hK ⊢
         obtain ⟨y0, y1, y2, y3, y4, y5⟩ := HY.out
         have y0 := pw_cell_below HF.out y0
         have y1 := pw_cell_below HF.out y1
         have y2 := pw_cell_below HF.out y2
         have y3 := pw_cell_below HF.out y3
         have y4 := pw_cell_below HF.out y4
         have y5 := pw_cell_below HF.out y5
         refine AnyOrder.wpOp_go rfl (by rfl) ?_
         go_wp2_with fail
         exact ⟨l0, l1, l2, l3, true, l5, l6, true, true, l9, l10, l11, l12, l13, l14, rfl, rfl, HF⟩
        ·
         obtain rfl : l9 = false := (AnyOrder.mem_ready hi).2.1
         obtain rfl : l4 = true := AnyOrder.dep (q := 0) hi rfl rfl rfl
         clear hi
         simp only [sel_true, selv_true] at hK ⊢
         refine AnyOrder.wpOp_go rfl (by rfl) ?_
         go_wp2_with fail
         exact ⟨l0, l1, l2, l3, true, l5, l6, l7, l8, true, l10, l11, l12, l13, l14, rfl, rfl, HF⟩
        ·
         obtain rfl : l10 = false := (AnyOrder.mem_ready hi).2.1
         obtain rfl : l4 = true := AnyOrder.dep (q := 0) hi rfl rfl rfl
         clear hi
         simp only [sel_true, selv_true] at hK ⊢
         refine AnyOrder.wpOp_go rfl (by rfl) ?_
         go_wp2_with fail
         exact ⟨l0, l1, l2, l3, true, l5, l6, l7, l8, l9, true, l11, l12, l13, l14, rfl, rfl, HF⟩
        ·
         obtain rfl : l11 = false := (AnyOrder.mem_ready hi).2.1
         obtain rfl : l9 = true := AnyOrder.dep (q := 0) hi rfl rfl rfl
         obtain rfl : l10 = true := AnyOrder.dep (q := 1) hi rfl rfl rfl
         obtain rfl : l4 = true := AnyOrder.dep (q := 2) hi rfl rfl rfl
         clear hi
         simp only [sel_true, selv_true] at hK ⊢
         have hkk := HXI.out.1
         have hkl2 := HXI.out.2
         refine AnyOrder.wpOp_go rfl (by rfl) ?_
         go_wp2_with fail
         exact ⟨l0, l1, l2, l3, true, l5, l6, l7, l8, true, true, true, l12, l13, l14, rfl, rfl, HF⟩
        ·
         obtain rfl : l12 = false := (AnyOrder.mem_ready hi).2.1
         obtain rfl : l11 = true := AnyOrder.dep (q := 0) hi rfl rfl rfl
         obtain rfl : l4 = true := AnyOrder.dep (q := 1) hi rfl rfl rfl
         clear hi
         simp only [sel_true, selv_true] at hK ⊢
         obtain ⟨g0, g1, g2, g3, g4, g5⟩ := HG.out
         have g0 := pw_cell_below HF.out g0
         have g1 := pw_cell_below HF.out g1
         have g2 := pw_cell_below HF.out g2
         have g3 := pw_cell_below HF.out g3
         have g4 := pw_cell_below HF.out g4
         have g5 := pw_cell_below HF.out g5
         refine AnyOrder.wpOp_go rfl (by rfl) ?_
         go_wp2_with fail
         exact ⟨l0, l1, l2, l3, true, l5, l6, l7, l8, l9, l10, true, true, l13, l14, rfl, rfl, HF⟩
        ·
         obtain rfl : l13 = false := (AnyOrder.mem_ready hi).2.1
         obtain rfl : l8 = true := AnyOrder.dep (q := 0) hi rfl rfl rfl
         obtain rfl : l12 = true := AnyOrder.dep (q := 1) hi rfl rfl rfl
         obtain rfl : l4 = true := AnyOrder.dep (q := 2) hi rfl rfl rfl
         clear hi
         simp only [sel_true, selv_true] at hK ⊢
         refine AnyOrder.wpOp_go rfl (by rfl) ?_
         go_wp2_with fail
         refine (redpencilref09_Before.calls _ _ _ _ _ _ _ _ _ _ _ _ false V (by rw [before_is, Hb.out])).mono ?_
         rintro e V' ⟨rfl, hb⟩
         exact hK _ _ ⟨l0, l1, l2, l3, true, l5, l6, l7, true, l9, l10, l11, true, true, l14, rfl, rfl, ⟨below_more HF.out hb⟩⟩
        ·
         obtain rfl : l14 = false := (AnyOrder.mem_ready hi).2.1
         obtain rfl : l4 = true := AnyOrder.dep (q := 0) hi rfl rfl rfl
         obtain rfl : l13 = true := AnyOrder.dep (q := 1) hi rfl rfl rfl
         clear hi
         simp only [sel_true, selv_true] at hK ⊢
         refine AnyOrder.wpOp_go rfl (by rfl) ?_
         go_wp2_with fail
         exact ⟨l0, l1, l2, l3, true, l5, l6, l7, l8, l9, l10, l11, l12, true, true, rfl, rfl, HF⟩
       case last =>
        rintro L ac V ⟨l0, l1, l2, l3, l4, l5, l6, l7, l8, l9, l10, l11, l12, l13, l14, rfl, rfl, HF⟩ hr
        have hall := AnyOrder.all_listed rfl (by kernel_rfl) hr
        clear hr
        obtain rfl : l0 = true := hall 0 (by decide)
        obtain rfl : l1 = true := hall 1 (by decide)
        obtain rfl : l2 = true := hall 2 (by decide)
        obtain rfl : l3 = true := hall 3 (by decide)
        obtain rfl : l4 = true := hall 4 (by decide)
        obtain rfl : l5 = true := hall 5 (by decide)
        obtain rfl : l6 = true := hall 6 (by decide)
        obtain rfl : l7 = true := hall 7 (by decide)
        obtain rfl : l8 = true := hall 8 (by decide)
        obtain rfl : l9 = true := hall 9 (by decide)
        obtain rfl : l10 = true := hall 10 (by decide)
        obtain rfl : l11 = true := hall 11 (by decide)
        obtain rfl : l12 = true := hall 12 (by decide)
        obtain rfl : l13 = true := hall 13 (by decide)
        obtain rfl : l14 = true := hall 14 (by decide)
        clear hall
        simp only [sel_true, selv_true]
        have HHF := Aside0.mk (below_more (below_drew1 HB2.out) HF.out)
        clear HF
        generalize V = V9 at *
        have HHO9 := Aside0.mk (RN.C (RN.below' HHO.out (below_drew1 HHF.out)))
        have HB9 := Aside0.mk (below_more HHB.out (below_drew1 HHF.out))
        obtain ⟨ad', e, g0, g1, g2, g3, g4, g5⟩ := node_at HR.out HB9.out i' x Hx.out
        cases e
        have HG := Aside0.mk (And.intro g0 (And.intro g1 (And.intro g2 (And.intro g3 (And.intro g4 g5)))))
        have HKC : Aside0 (k ≤ no ∧ no ≤ 400000) := ⟨⟨Nat.le_of_lt hkl, HNO.out⟩⟩
        clear g0 g1 g2 g3 g4 g5
        obtain ⟨out, Hout⟩ : ∃ out, Aside0 (kids (l0.take i') d = out) := ⟨_, ⟨rfl⟩⟩
        rw [Hout.out] at HHO9 HCUT HST
        obtain ⟨m3, Hm3⟩ : ∃ m3, Aside0 (no - k = m3) := ⟨_, ⟨rfl⟩⟩
        obtain ⟨q3, Hq3⟩ : ∃ q3, Aside0 (co - k = q3) := ⟨_, ⟨rfl⟩⟩
        obtain ⟨Ac, HAc⟩ : ∃ Ac, Aside0 ((if co = k then (some ado) else Option.map (·.add (k * 6)) (some ado)) = Ac) := ⟨_, ⟨rfl⟩⟩
        have HCD : Aside0 (Kd.C k35 V9.drew Ac m3 (out.drop k)) := ⟨by rw [← HAc.out, ← Hm3.out]; exact C_from HHO9.out.2.2 HHO9.out.1 HKC.out.1 HHO9.out.2.1⟩
        have HCF : Aside0 (∀ W, (Instr.sliceAt 22 (.slice (some ado) no co) (some (.int .i64 (k : Int))) none none).run Tryz.prog W = .ok (.slice Ac m3 q3) W) := ⟨fun W => by rw [← HAc.out, ← Hm3.out, ← Hq3.out]; exact cut_fromN HKC.out.1 W⟩
        go_wp2_with fail
        refine AnyOrder.wp_region (by kernel_rfl) (rc9Inv V9.drew ad (some ado) Ac n c0 i' k no co m3 q3 x out _ _ _ _ _ _ _ _ _ _ _ _ _ _ _ _ _ _ _ _ _ _ _ _ _ _ _ _ _ _ _ _ _ _ _ _ _ _ _ _ _ _ _ _ _ _ _ _ _) ⟨false, false, false, false, false, false, false, false, false, false, false, false, false, false, false, 0, undef, undef, undef, rfl, rfl, ⟨⟨fun h => (by cases h), fun h => (by cases h), fun h => (by cases h), Below.refl _ _, fun h _ => (by cases h), fun h _ => (by cases h), fun h _ => (by cases h), fun h => (by cases h)⟩⟩⟩ ?step ?last
        case step =>
         rintro L ac V i ⟨l0, l1, l2, l3, l4, l5, l6, l7, l8, l9, l10, l11, l12, l13, l14, g, v1, v2, v3, rfl, rfl, HF⟩ hi K hK
         have h1 : i = 0 ∨ i = 1 ∨ i = 2 ∨ i = 3 ∨ i = 4 ∨ i = 5 ∨ i = 6 ∨ i = 7 ∨ i = 8 ∨ i = 9 ∨ i = 10 ∨ i = 11 ∨ i = 12 ∨ i = 13 ∨ i = 14 := by
          have h1 := (AnyOrder.mem_ready hi).1
          clear hi hK
          change i < 15 at h1
          omega
         rcases h1 with rfl | rfl | rfl | rfl | rfl | rfl | rfl | rfl | rfl | rfl | rfl | rfl | rfl | rfl | rfl
         ·
          obtain rfl : l0 = false := (AnyOrder.mem_ready hi).2.1
          clear hi
          obtain rfl : l14 = false := by cases l14 with | false => rfl | true => cases (HF.out.ord14 rfl).2.1
          (try simp only [sel_false, selv_false] at hK ⊢)
          refine AnyOrder.wpOp_go rfl (by rfl) ?_
          go_wp2_with fail
          exact ⟨true, l1, l2, l3, l4, l5, l6, l7, l8, l9, l10, l11, l12, l13, false, g, v1, v2, v3, rfl, rfl, ⟨⟨HF.out.ord9, HF.out.ord13, fun h => (by cases h), HF.out.below, HF.out.r1, HF.out.bx, HF.out.r2, HF.out.r3⟩⟩⟩
         ·
          obtain rfl : l1 = false := (AnyOrder.mem_ready hi).2.1
          clear hi
          refine AnyOrder.wpOp_go rfl (by rfl) ?_
          go_wp2_with fail
          exact ⟨l0, true, l2, l3, l4, l5, l6, l7, l8, l9, l10, l11, l12, l13, l14, g, v1, v2, v3, rfl, rfl, HF⟩
         ·
          obtain rfl : l2 = false := (AnyOrder.mem_ready hi).2.1
          obtain rfl : l0 = true := AnyOrder.dep (q := 0) hi rfl rfl rfl
          obtain rfl : l1 = true := AnyOrder.dep (q := 1) hi rfl rfl rfl
          clear hi
          simp only [sel_true, selv_true] at hK ⊢
          refine AnyOrder.wpOp_go rfl (by rfl) ?_
          refine op_slice 22 (.tmp 38) none (some (.tmp 39)) rfl rfl rfl rfl (cut_toN HKC.out.1 HHO9.out.2.1 V) ?_
          exact hK _ _ ⟨true, true, true, l3, l4, l5, l6, l7, l8, l9, l10, l11, l12, l13, l14, g, v1, v2, v3, rfl, rfl, HF⟩
         ·
          obtain rfl : l3 = false := (AnyOrder.mem_ready hi).2.1
          obtain rfl : l2 = true := AnyOrder.dep (q := 0) hi rfl rfl rfl
          clear hi
          simp only [sel_true, selv_true] at hK ⊢
          obtain ⟨rfl, rfl, rfl⟩ := HF.out.no (.inl rfl)
          refine AnyOrder.wpOp_go rfl (by rfl) ?_
          refine op_append_node V9.drew.heap.size rfl (.const (.slice none 0 0)) (.tmp 40) rfl (.slice none 0 0) [] (out.take k) (some ado) k co rfl rfl (Kd.R_nil _ _ _ _ _) (C_to (Kd.C_below HHO9.out.2.2 HF.out.below) HHO9.out.1 HKC.out.1) HF.out.below.size (by have h1 := HKC.out.1; have h2 := HKC.out.2; simp; omega) ?_
          intro u1 V1 hr1 hg1 _
          have hb1 := grown_nil hg1
          exact hK _ _ ⟨l0, l1, true, true, l4, l5, l6, l7, l8, false, l10, l11, l12, false, false, g, u1, v2, v3, rfl, rfl, ⟨⟨fun h => (by cases h), fun h => (by cases h), fun h => (by cases h), below_more HF.out.below hb1, fun _ _ => hr1, fun h _ => blk_keep (HF.out.bx h rfl) hb1, fun h _ => (by cases h), fun h => (by cases h)⟩⟩⟩
         ·
          obtain rfl : l4 = false := (AnyOrder.mem_ready hi).2.1
          clear hi
          refine AnyOrder.wpOp_go rfl (by rfl) ?_
          go_wp2_with fail
          exact ⟨l0, l1, l2, l3, true, l5, l6, l7, l8, l9, l10, l11, l12, l13, l14, g, v1, v2, v3, rfl, rfl, HF⟩
         ·
          obtain rfl : l5 = false := (AnyOrder.mem_ready hi).2.1
          clear hi
          refine AnyOrder.wpOp_go rfl (by rfl) ?_
          go_wp2_with fail
          exact ⟨l0, l1, l2, l3, l4, true, l6, l7, l8, l9, l10, l11, l12, l13, l14, g, v1, v2, v3, rfl, rfl, HF⟩
         ·
          obtain rfl : l6 = false := (AnyOrder.mem_ready hi).2.1
          obtain rfl : l4 = true := AnyOrder.dep (q := 0) hi rfl rfl rfl
          obtain rfl : l5 = true := AnyOrder.dep (q := 1) hi rfl rfl rfl
          clear hi
          simp only [sel_true, selv_true] at hK ⊢
          have hkk := HXI.out.1
          have hkl2 := HXI.out.2
          refine AnyOrder.wpOp_go rfl (by rfl) ?_
          go_wp2_with fail
          exact ⟨l0, l1, l2, l3, true, true, true, l7, l8, l9, l10, l11, l12, l13, l14, g, v1, v2, v3, rfl, rfl, HF⟩
         ·
          obtain rfl : l7 = false := (AnyOrder.mem_ready hi).2.1
          obtain rfl : l6 = true := AnyOrder.dep (q := 0) hi rfl rfl rfl
          clear hi
          simp only [sel_true, selv_true] at hK ⊢
          obtain ⟨g0, g1, g2, g3, g4, g5⟩ := HG.out
          have g0 := pw_cell_below HF.out.below g0
          have g1 := pw_cell_below HF.out.below g1
          have g2 := pw_cell_below HF.out.below g2
          have g3 := pw_cell_below HF.out.below g3
          have g4 := pw_cell_below HF.out.below g4
          have g5 := pw_cell_below HF.out.below g5
          refine AnyOrder.wpOp_go rfl (by rfl) ?_
          go_wp2_with fail
          exact ⟨l0, l1, l2, l3, l4, l5, true, true, l8, l9, l10, l11, l12, l13, l14, g, v1, v2, v3, rfl, rfl, HF⟩
         ·
          obtain rfl : l8 = false := (AnyOrder.mem_ready hi).2.1
          obtain rfl : l7 = true := AnyOrder.dep (q := 0) hi rfl rfl rfl
          clear hi
          simp only [sel_true, selv_true] at hK ⊢
          obtain ⟨rfl, rfl, rfl⟩ := HF.out.no (.inr rfl)
          have hb1 := (Gr.alloc V (boxN x)).below
          refine AnyOrder.wpOp_go rfl (by rfl) ?_
          go_wp2_with fail
          exact ⟨l0, l1, l2, l3, l4, l5, l6, true, true, false, l10, l11, l12, false, false, V.heap.size, v1, v2, v3, rfl, rfl, ⟨⟨fun h => (by cases h), fun h => (by cases h), fun h => (by cases h), below_more HF.out.below hb1, fun h _ => RN.below' (HF.out.r1 h rfl) hb1, fun _ _ => blk_new _ _, fun h _ => (by cases h), fun h => (by cases h)⟩⟩⟩
         ·
          obtain rfl : l9 = false := (AnyOrder.mem_ready hi).2.1
          obtain rfl : l3 = true := AnyOrder.dep (q := 0) hi rfl rfl rfl
          obtain rfl : l8 = true := AnyOrder.dep (q := 1) hi rfl rfl rfl
          clear hi
          simp only [sel_true, selv_true] at hK ⊢
          obtain rfl : l13 = false := by cases l13 with | false => rfl | true => cases HF.out.ord13 rfl
          obtain rfl : l14 = false := by cases l14 with | false => rfl | true => cases (HF.out.ord14 rfl).1
          have hr1 := HF.out.r1 rfl rfl
          refine AnyOrder.wpOp_go rfl (by rfl) ?_
          refine op_append_node V9.drew.heap.size rfl (.tmp 41) (.tmp 46) rfl v1 (out.take k) [x] (some ⟨g, 0, none⟩) 1 1 rfl rfl hr1 (boxN_C (HF.out.bx rfl rfl)) HF.out.below.size (by have h1 := HKC.out.1; have h2 := HKC.out.2; rw [List.length_take]; omega) ?_
          intro u2 V2 hr2 hg2 _
          exact hK _ _ ⟨l0, l1, l2, true, l4, l5, l6, l7, true, true, l10, l11, l12, false, false, g, v1, u2, v3, rfl, rfl, ⟨⟨fun _ => ⟨rfl, rfl⟩, fun h => (by cases h), fun h => (by cases h), grown_below HF.out.below hr1 hg2, fun _ h => (by cases h), fun _ h => (by cases h), fun _ _ => hr2, fun h => (by cases h)⟩⟩⟩
         ·
          obtain rfl : l10 = false := (AnyOrder.mem_ready hi).2.1
          clear hi
          obtain rfl : l14 = false := by cases l14 with | false => rfl | true => cases (HF.out.ord14 rfl).2.2
          (try simp only [sel_false, selv_false] at hK ⊢)
          refine AnyOrder.wpOp_go rfl (by rfl) ?_
          go_wp2_with fail
          exact ⟨l0, l1, l2, l3, l4, l5, l6, l7, l8, l9, true, l11, l12, l13, false, g, v1, v2, v3, rfl, rfl, ⟨⟨HF.out.ord9, HF.out.ord13, fun h => (by cases h), HF.out.below, HF.out.r1, HF.out.bx, HF.out.r2, HF.out.r3⟩⟩⟩
         ·
          obtain rfl : l11 = false := (AnyOrder.mem_ready hi).2.1
          clear hi
          refine AnyOrder.wpOp_go rfl (by rfl) ?_
          go_wp2_with fail
          exact ⟨l0, l1, l2, l3, l4, l5, l6, l7, l8, l9, l10, true, l12, l13, l14, g, v1, v2, v3, rfl, rfl, HF⟩
         ·
          obtain rfl : l12 = false := (AnyOrder.mem_ready hi).2.1
          obtain rfl : l10 = true := AnyOrder.dep (q := 0) hi rfl rfl rfl
          obtain rfl : l11 = true := AnyOrder.dep (q := 1) hi rfl rfl rfl
          clear hi
          simp only [sel_true, selv_true] at hK ⊢
          refine AnyOrder.wpOp_go rfl (by rfl) ?_
          refine op_slice 22 (.tmp 48) (some (.tmp 49)) none rfl rfl rfl rfl (HCF.out V) ?_
          exact hK _ _ ⟨l0, l1, l2, l3, l4, l5, l6, l7, l8, l9, true, true, true, l13, l14, g, v1, v2, v3, rfl, rfl, HF⟩
         ·
          obtain rfl : l13 = false := (AnyOrder.mem_ready hi).2.1
          obtain rfl : l9 = true := AnyOrder.dep (q := 0) hi rfl rfl rfl
          obtain rfl : l12 = true := AnyOrder.dep (q := 1) hi rfl rfl rfl
          clear hi
          simp only [sel_true, selv_true] at hK ⊢
          obtain rfl : l14 = false := by cases l14 with | false => rfl | true => cases (HF.out.ord14 rfl).1
          have hr2 := HF.out.r2 rfl rfl
          refine AnyOrder.wpOp_go rfl (by rfl) ?_
          refine op_append_node V9.drew.heap.size rfl (.tmp 47) (.tmp 50) rfl v2 (out.take k ++ [x]) (out.drop k) Ac m3 q3 rfl rfl hr2 (Kd.C_below HCD.out HF.out.below) HF.out.below.size (by have h1 := HKC.out.1; have h2 := HKC.out.2; have h3 := Hm3.out; rw [List.length_append, List.length_take, List.length_singleton]; omega) ?_
          intro u3 V3 hr3 hg3 _
          exact hK _ _ ⟨l0, l1, l2, l3, l4, l5, l6, l7, l8, true, l10, l11, true, true, false, g, v1, v2, u3, rfl, rfl, ⟨⟨HF.out.ord9, fun _ => rfl, fun h => (by cases h), grown_below HF.out.below hr2 hg3, fun _ h => (by cases h), fun _ h => (by cases h), fun _ h => (by cases h), fun _ => by rw [HCUT.out]; exact hr3⟩⟩⟩
         ·
          obtain rfl : l14 = false := (AnyOrder.mem_ready hi).2.1
          obtain rfl : l13 = true := AnyOrder.dep (q := 0) hi rfl rfl rfl
          obtain rfl : l0 = true := AnyOrder.dep (q := 2) hi rfl rfl rfl
          obtain rfl : l1 = true := AnyOrder.dep (q := 3) hi rfl rfl rfl
          obtain rfl : l2 = true := AnyOrder.dep (q := 4) hi rfl rfl rfl
          obtain rfl : l3 = true := AnyOrder.dep (q := 5) hi rfl rfl rfl
          obtain rfl : l4 = true := AnyOrder.dep (q := 6) hi rfl rfl rfl
          obtain rfl : l5 = true := AnyOrder.dep (q := 7) hi rfl rfl rfl
          obtain rfl : l6 = true := AnyOrder.dep (q := 8) hi rfl rfl rfl
          obtain rfl : l7 = true := AnyOrder.dep (q := 9) hi rfl rfl rfl
          obtain rfl : l8 = true := AnyOrder.dep (q := 10) hi rfl rfl rfl
          obtain rfl : l9 = true := AnyOrder.dep (q := 11) hi rfl rfl rfl
          obtain rfl : l10 = true := AnyOrder.dep (q := 12) hi rfl rfl rfl
          obtain rfl : l11 = true := AnyOrder.dep (q := 13) hi rfl rfl rfl
          obtain rfl : l12 = true := AnyOrder.dep (q := 14) hi rfl rfl rfl
          clear hi
          simp only [sel_true, selv_true] at hK ⊢
          refine AnyOrder.wpOp_go rfl (by rfl) ?_
          go_wp2_with fail
          exact ⟨true, true, true, true, true, true, true, true, true, true, true, true, true, true, true, g, v1, v2, v3, rfl, rfl, ⟨⟨HF.out.ord9, HF.out.ord13, fun _ => ⟨rfl, rfl, rfl⟩, HF.out.below, HF.out.r1, HF.out.bx, HF.out.r2, HF.out.r3⟩⟩⟩
        case last =>
         rintro L ac V ⟨l0, l1, l2, l3, l4, l5, l6, l7, l8, l9, l10, l11, l12, l13, l14, g, v1, v2, v3, rfl, rfl, HF⟩ hr
         have hall := AnyOrder.all_listed rfl (by kernel_rfl) hr
         clear hr
         obtain rfl : l0 = true := hall 0 (by decide)
         obtain rfl : l1 = true := hall 1 (by decide)
         obtain rfl : l2 = true := hall 2 (by decide)
         obtain rfl : l3 = true := hall 3 (by decide)
         obtain rfl : l4 = true := hall 4 (by decide)
         obtain rfl : l5 = true := hall 5 (by decide)
         obtain rfl : l6 = true := hall 6 (by decide)
         obtain rfl : l7 = true := hall 7 (by decide)
         obtain rfl : l8 = true := hall 8 (by decide)
         obtain rfl : l9 = true := hall 9 (by decide)
         obtain rfl : l10 = true := hall 10 (by decide)
         obtain rfl : l11 = true := hall 11 (by decide)
         obtain rfl : l12 = true := hall 12 (by decide)
         obtain rfl : l13 = true := hall 13 (by decide)
         obtain rfl : l14 = true := hall 14 (by decide)
         clear hall
         simp only [sel_true, selv_true]
         have HR3 := Aside0.mk (HF.out.r3 rfl)
         have HB3 := Aside0.mk (below_more HB9.out HF.out.below)
         have HK3 := Aside0.mk (blk_keep (blk_keep HHK.out (below_drew1 HHF.out)) HF.out.below)
         have hn4 := HXI.out.2
         obtain ⟨A3, c3, rfl⟩ := RN.slice HR3.out
         obtain ⟨n3, hn3⟩ : ∃ n3, (insB x out).length = n3 := ⟨_, rfl⟩
         rw [hn3] at HR3 ⊢
         clear HF hn3
         go_wp2
         go_roundw
         case rel => exact ⟨i' + 1, A3, n3, c3, by omega, by go_num, rfl, ⟨by rw [HST.out]; exact Kd.R_lower HR3.out HB9.out.size⟩, HK3, HB3⟩
         case measure => simp [intOf] <;> omega
     ·
      obtain rfl : k = no := by omega
      have HCUT : Aside0 (insB x (kids (l0.take i') d) = (kids (l0.take i') d).take k ++ [x] ++ (kids (l0.take i') d).drop k) := ⟨by rw [insB_cut, cutN_is (k := k) (by rw [HOC.out.1]; exact hk) HPRE.out (fun z hz => by rw [List.getElem?_eq_none (by rw [HOC.out.1]; exact hk)] at hz; cases hz)]; simp⟩
      go_wp2
      refine AnyOrder.wp_region (by kernel_rfl) (rc7eInv wr.drew ad Ao n c0 i' k k co x x false false _ _ _ _ _ _ _ _ _ _ _ _ _ _ _ _ _ _ _ _ _ _ _ _ _ _ _ _ _ _ _ _ _ _ _ _ _ _ _ _ _ _ _ _ _ _ _ _ _) ⟨false, false, false, false, false, false, false, false, false, false, false, false, false, false, false, rfl, rfl, ⟨Below.refl _ _⟩⟩ ?step ?last
      case step =>
       rintro L ac V i ⟨l0, l1, l2, l3, l4, l5, l6, l7, l8, l9, l10, l11, l12, l13, l14, rfl, rfl, HF⟩ hi K hK
       have h1 : i = 0 ∨ i = 1 ∨ i = 2 ∨ i = 3 ∨ i = 4 ∨ i = 5 ∨ i = 6 ∨ i = 7 ∨ i = 8 ∨ i = 9 ∨ i = 10 ∨ i = 11 ∨ i = 12 ∨ i = 13 ∨ i = 14 := by
        have h1 := (AnyOrder.mem_ready hi).1
        clear hi hK
        change i < 15 at h1
        omega
       rcases h1 with rfl | rfl | rfl | rfl | rfl | rfl | rfl | rfl | rfl | rfl | rfl | rfl | rfl | rfl | rfl
       ·
        obtain rfl : l0 = false := (AnyOrder.mem_ready hi).2.1
        clear hi
        refine AnyOrder.wpOp_go rfl (by rfl) ?_
        go_wp2_with fail
        exact ⟨true, l1, l2, l3, l4, l5, l6, l7, l8, l9, l10, l11, l12, l13, l14, rfl, rfl, HF⟩
       ·
        obtain rfl : l1 = false := (AnyOrder.mem_ready hi).2.1
        clear hi
        refine AnyOrder.wpOp_go rfl (by rfl) ?_
        go_wp2_with fail
        exact ⟨l0, true, l2, l3, l4, l5, l6, l7, l8, l9, l10, l11, l12, l13, l14, rfl, rfl, HF⟩
       ·
        obtain rfl : l2 = false := (AnyOrder.mem_ready hi).2.1
        obtain rfl : l1 = true := AnyOrder.dep (q := 0) hi rfl rfl rfl
        clear hi
        simp only [sel_true, selv_true] at hK ⊢
        refine AnyOrder.wpOp_go rfl (by rfl) ?_
        go_wp2_with fail
        exact ⟨l0, true, true, l3, l4, l5, l6, l7, l8, l9, l10, l11, l12, l13, l14, rfl, rfl, HF⟩
       ·
        obtain rfl : l3 = false := (AnyOrder.mem_ready hi).2.1
        obtain rfl : l0 = true := AnyOrder.dep (q := 0) hi rfl rfl rfl
        obtain rfl : l2 = true := AnyOrder.dep (q := 1) hi rfl rfl rfl
        clear hi
        simp only [sel_true, selv_true] at hK ⊢
        have hdec : decide ((k : Int) < (k : Int)) = false := decide_eq_false (by omega)
        refine AnyOrder.wpOp_go rfl (by rfl) ?_
        go_wp2_with fail
        exact ⟨true, l1, true, true, l4, l5, l6, l7, l8, l9, l10, l11, l12, l13, l14, rfl, rfl, HF⟩
       ·
        obtain rfl : l4 = false := (AnyOrder.mem_ready hi).2.1
        obtain rfl : l3 = true := AnyOrder.dep (q := 0) hi rfl rfl rfl
        clear hi
        simp only [sel_true, selv_true] at hK ⊢
        refine AnyOrder.wpOp_go rfl (by rfl) ?_
        go_wp2_with fail
        exact ⟨l0, l1, l2, true, true, l5, l6, l7, l8, l9, l10, l11, l12, l13, l14, rfl, rfl, HF⟩
       ·
        obtain rfl : l5 = false := (AnyOrder.mem_ready hi).2.1
        obtain rfl : l4 = true := AnyOrder.dep (q := 0) hi rfl rfl rfl
        clear hi
        simp only [sel_true, selv_true] at hK ⊢
        refine AnyOrder.wpOp_out rfl (by rfl) ?_
        exact hK _ _ ⟨l0, l1, l2, l3, true, true, l6, l7, l8, l9, l10, l11, l12, l13, l14, rfl, rfl, HF⟩
       ·
        obtain rfl : l6 = false := (AnyOrder.mem_ready hi).2.1
        obtain rfl : l4 = true := AnyOrder.dep (q := 0) hi rfl rfl rfl
        clear hi
        simp only [sel_true, selv_true] at hK ⊢
        refine AnyOrder.wpOp_out rfl (by rfl) ?_
        exact hK _ _ ⟨l0, l1, l2, l3, true, l5, true, l7, l8, l9, l10, l11, l12, l13, l14, rfl, rfl, HF⟩
       ·
        obtain rfl : l7 = false := (AnyOrder.mem_ready hi).2.1
        obtain rfl : l5 = true := AnyOrder.dep (q := 0) hi rfl rfl rfl
        obtain rfl : l6 = true := AnyOrder.dep (q := 1) hi rfl rfl rfl
        obtain rfl : l4 = true := AnyOrder.dep (q := 2) hi rfl rfl rfl
        clear hi
        simp only [sel_true, selv_true] at hK ⊢
        refine AnyOrder.wpOp_out rfl (by rfl) ?_
        exact hK _ _ ⟨l0, l1, l2, l3, true, true, true, true, l8, l9, l10, l11, l12, l13, l14, rfl, rfl, HF⟩
       ·
        obtain rfl : l8 = false := (AnyOrder.mem_ready hi).2.1
        obtain rfl : l7 = true := AnyOrder.dep (q := 0) hi rfl rfl rfl
        obtain rfl : l4 = true := AnyOrder.dep (q := 1) hi rfl rfl rfl
        clear hi
        simp only [sel_true, selv_true] at hK ⊢
        refine AnyOrder.wpOp_out rfl (by rfl) ?_
        exact hK _ _ ⟨l0, l1, l2, l3, true, l5, l6, true, true, l9, l10, l11, l12, l13, l14, rfl, rfl, HF⟩
       ·
        obtain rfl : l9 = false := (AnyOrder.mem_ready hi).2.1
        obtain rfl : l4 = true := AnyOrder.dep (q := 0) hi rfl rfl rfl
        clear hi
        simp only [sel_true, selv_true] at hK ⊢
        refine AnyOrder.wpOp_out rfl (by rfl) ?_
        exact hK _ _ ⟨l0, l1, l2, l3, true, l5, l6, l7, l8, true, l10, l11, l12, l13, l14, rfl, rfl, HF⟩
       ·
        obtain rfl : l10 = false := (AnyOrder.mem_ready hi).2.1
        obtain rfl : l4 = true := AnyOrder.dep (q := 0) hi rfl rfl rfl
        clear hi
        simp only [sel_true, selv_true] at hK ⊢
        refine AnyOrder.wpOp_out rfl (by rfl) ?_
        exact hK _ _ ⟨l0, l1, l2, l3, true, l5, l6, l7, l8, l9, true, l11, l12, l13, l14, rfl, rfl, HF⟩
       ·
        obtain rfl : l11 = false := (AnyOrder.mem_ready hi).2.1
        obtain rfl : l9 = true := AnyOrder.dep (q := 0) hi rfl rfl rfl
        obtain rfl : l10 = true := AnyOrder.dep (q := 1) hi rfl rfl rfl
        obtain rfl : l4 = true := AnyOrder.dep (q := 2) hi rfl rfl rfl
        clear hi
        simp only [sel_true, selv_true] at hK ⊢
        refine AnyOrder.wpOp_out rfl (by rfl) ?_
        exact hK _ _ ⟨l0, l1, l2, l3, true, l5, l6, l7, l8, true, true, true, l12, l13, l14, rfl, rfl, HF⟩
       ·
        obtain rfl : l12 = false := (AnyOrder.mem_ready hi).2.1
        obtain rfl : l11 = true := AnyOrder.dep (q := 0) hi rfl rfl rfl
        obtain rfl : l4 = true := AnyOrder.dep (q := 1) hi rfl rfl rfl
        clear hi
        simp only [sel_true, selv_true] at hK ⊢
        refine AnyOrder.wpOp_out rfl (by rfl) ?_
        exact hK _ _ ⟨l0, l1, l2, l3, true, l5, l6, l7, l8, l9, l10, true, true, l13, l14, rfl, rfl, HF⟩
       ·
        obtain rfl : l13 = false := (AnyOrder.mem_ready hi).2.1
        obtain rfl : l8 = true := AnyOrder.dep (q := 0) hi rfl rfl rfl
        obtain rfl : l12 = true := AnyOrder.dep (q := 1) hi rfl rfl rfl
        obtain rfl : l4 = true := AnyOrder.dep (q := 2) hi rfl rfl rfl
        clear hi
        simp only [sel_true, selv_true] at hK ⊢
        refine AnyOrder.wpOp_out rfl (by rfl) ?_
        exact hK _ _ ⟨l0, l1, l2, l3, true, l5, l6, l7, true, l9, l10, l11, true, true, l14, rfl, rfl, HF⟩
       ·
        obtain rfl : l14 = false := (AnyOrder.mem_ready hi).2.1
        obtain rfl : l4 = true := AnyOrder.dep (q := 0) hi rfl rfl rfl
        obtain rfl : l13 = true := AnyOrder.dep (q := 1) hi rfl rfl rfl
        clear hi
        simp only [sel_true, selv_true] at hK ⊢
        refine AnyOrder.wpOp_go rfl (by rfl) ?_
        go_wp2_with fail
        exact ⟨l0, l1, l2, l3, true, l5, l6, l7, l8, l9, l10, l11, l12, true, true, rfl, rfl, HF⟩
      case last =>
       rintro L ac V ⟨l0, l1, l2, l3, l4, l5, l6, l7, l8, l9, l10, l11, l12, l13, l14, rfl, rfl, HF⟩ hr
       have hall := AnyOrder.all_listed rfl (by kernel_rfl) hr
       clear hr
       obtain rfl : l0 = true := hall 0 (by decide)
       obtain rfl : l1 = true := hall 1 (by decide)
       obtain rfl : l2 = true := hall 2 (by decide)
       obtain rfl : l3 = true := hall 3 (by decide)
       obtain rfl : l4 = true := hall 4 (by decide)
       obtain rfl : l5 = true := hall 5 (by decide)
       obtain rfl : l6 = true := hall 6 (by decide)
       obtain rfl : l7 = true := hall 7 (by decide)
       obtain rfl : l8 = true := hall 8 (by decide)
       obtain rfl : l9 = true := hall 9 (by decide)
       obtain rfl : l10 = true := hall 10 (by decide)
       obtain rfl : l11 = true := hall 11 (by decide)
       obtain rfl : l12 = true := hall 12 (by decide)
       obtain rfl : l13 = true := hall 13 (by decide)
       obtain rfl : l14 = true := hall 14 (by decide)
       clear hall
       simp only [sel_true, selv_true]
       have HHF := Aside0.mk (below_more (below_drew1 HB2.out) HF.out)
       clear HF
       generalize V = V9 at *
       have HHO9 := Aside0.mk (RN.C (RN.below' HHO.out (below_drew1 HHF.out)))
       have HB9 := Aside0.mk (below_more HHB.out (below_drew1 HHF.out))
       obtain ⟨ad', e, g0, g1, g2, g3, g4, g5⟩ := node_at HR.out HB9.out i' x Hx.out
       cases e
       have HG := Aside0.mk (And.intro g0 (And.intro g1 (And.intro g2 (And.intro g3 (And.intro g4 g5)))))
       have HKC : Aside0 (k ≤ k ∧ k ≤ 400000) := ⟨⟨Nat.le_refl _, HNO.out⟩⟩
       clear g0 g1 g2 g3 g4 g5
       obtain ⟨out, Hout⟩ : ∃ out, Aside0 (kids (l0.take i') d = out) := ⟨_, ⟨rfl⟩⟩
       rw [Hout.out] at HHO9 HCUT HST
       obtain ⟨m3, Hm3⟩ : ∃ m3, Aside0 (k - k = m3) := ⟨_, ⟨rfl⟩⟩
       obtain ⟨q3, Hq3⟩ : ∃ q3, Aside0 (co - k = q3) := ⟨_, ⟨rfl⟩⟩
       obtain ⟨Ac, HAc⟩ : ∃ Ac, Aside0 ((if co = k then Ao else Option.map (·.add (k * 6)) Ao) = Ac) := ⟨_, ⟨rfl⟩⟩
       have HCD : Aside0 (Kd.C k35 V9.drew Ac m3 (out.drop k)) := ⟨by rw [← HAc.out, ← Hm3.out]; exact C_from HHO9.out.2.2 HHO9.out.1 HKC.out.1 HHO9.out.2.1⟩
       have HCF : Aside0 (∀ W, (Instr.sliceAt 22 (.slice Ao k co) (some (.int .i64 (k : Int))) none none).run Tryz.prog W = .ok (.slice Ac m3 q3) W) := ⟨fun W => by rw [← HAc.out, ← Hm3.out, ← Hq3.out]; exact cut_fromN HKC.out.1 W⟩
       go_wp2_with fail
       refine AnyOrder.wp_region (by kernel_rfl) (rc9Inv V9.drew ad Ao Ac n c0 i' k k co m3 q3 x out _ _ _ _ _ _ _ _ _ _ _ _ _ _ _ _ _ _ _ _ _ _ _ _ _ _ _ _ _ _ _ _ _ _ _ _ _ _ _ _ _ _ _ _ _ _ _ _ _) ⟨false, false, false, false, false, false, false, false, false, false, false, false, false, false, false, 0, undef, undef, undef, rfl, rfl, ⟨⟨fun h => (by cases h), fun h => (by cases h), fun h => (by cases h), Below.refl _ _, fun h _ => (by cases h), fun h _ => (by cases h), fun h _ => (by cases h), fun h => (by cases h)⟩⟩⟩ ?step ?last
       case step =>
        rintro L ac V i ⟨l0, l1, l2, l3, l4, l5, l6, l7, l8, l9, l10, l11, l12, l13, l14, g, v1, v2, v3, rfl, rfl, HF⟩ hi K hK
        have h1 : i = 0 ∨ i = 1 ∨ i = 2 ∨ i = 3 ∨ i = 4 ∨ i = 5 ∨ i = 6 ∨ i = 7 ∨ i = 8 ∨ i = 9 ∨ i = 10 ∨ i = 11 ∨ i = 12 ∨ i = 13 ∨ i = 14 := by
         have h1 := (AnyOrder.mem_ready hi).1
         clear hi hK
         change i < 15 at h1
         omega
        rcases h1 with rfl | rfl | rfl | rfl | rfl | rfl | rfl | rfl | rfl | rfl | rfl | rfl | rfl | rfl | rfl
        ·
         obtain rfl : l0 = false := (AnyOrder.mem_ready hi).2.1
         clear hi
         obtain rfl : l14 = false := by cases l14 with | false => rfl | true => cases (HF.out.ord14 rfl).2.1
         (try simp only [sel_false, selv_false] at hK ⊢)
         refine AnyOrder.wpOp_go rfl (by rfl) ?_
         go_wp2_with fail
         exact ⟨true, l1, l2, l3, l4, l5, l6, l7, l8, l9, l10, l11, l12, l13, false, g, v1, v2, v3, rfl, rfl, ⟨⟨HF.out.ord9, HF.out.ord13, fun h => (by cases h), HF.out.below, HF.out.r1, HF.out.bx, HF.out.r2, HF.out.r3⟩⟩⟩
        ·
         obtain rfl : l1 = false := (AnyOrder.mem_ready hi).2.1
         clear hi
         refine AnyOrder.wpOp_go rfl (by rfl) ?_
         go_wp2_with fail
         exact ⟨l0, true, l2, l3, l4, l5, l6, l7, l8, l9, l10, l11, l12, l13, l14, g, v1, v2, v3, rfl, rfl, HF⟩
        ·
         obtain rfl : l2 = false := (AnyOrder.mem_ready hi).2.1
         obtain rfl : l0 = true := AnyOrder.dep (q := 0) hi rfl rfl rfl
         obtain rfl : l1 = true := AnyOrder.dep (q := 1) hi rfl rfl rfl
         clear hi
         simp only [sel_true, selv_true] at hK ⊢
         refine AnyOrder.wpOp_go rfl (by rfl) ?_
         refine op_slice 22 (.tmp 38) none (some (.tmp 39)) rfl rfl rfl rfl (cut_toN HKC.out.1 HHO9.out.2.1 V) ?_
         exact hK _ _ ⟨true, true, true, l3, l4, l5, l6, l7, l8, l9, l10, l11, l12, l13, l14, g, v1, v2, v3, rfl, rfl, HF⟩
        ·
         obtain rfl : l3 = false := (AnyOrder.mem_ready hi).2.1
         obtain rfl : l2 = true := AnyOrder.dep (q := 0) hi rfl rfl rfl
         clear hi
         simp only [sel_true, selv_true] at hK ⊢
         obtain ⟨rfl, rfl, rfl⟩ := HF.out.no (.inl rfl)
         refine AnyOrder.wpOp_go rfl (by rfl) ?_
         refine op_append_node V9.drew.heap.size rfl (.const (.slice none 0 0)) (.tmp 40) rfl (.slice none 0 0) [] (out.take k) Ao k co rfl rfl (Kd.R_nil _ _ _ _ _) (C_to (Kd.C_below HHO9.out.2.2 HF.out.below) HHO9.out.1 HKC.out.1) HF.out.below.size (by have h1 := HKC.out.1; have h2 := HKC.out.2; simp; omega) ?_
         intro u1 V1 hr1 hg1 _
         have hb1 := grown_nil hg1
         exact hK _ _ ⟨l0, l1, true, true, l4, l5, l6, l7, l8, false, l10, l11, l12, false, false, g, u1, v2, v3, rfl, rfl, ⟨⟨fun h => (by cases h), fun h => (by cases h), fun h => (by cases h), below_more HF.out.below hb1, fun _ _ => hr1, fun h _ => blk_keep (HF.out.bx h rfl) hb1, fun h _ => (by cases h), fun h => (by cases h)⟩⟩⟩
        ·
         obtain rfl : l4 = false := (AnyOrder.mem_ready hi).2.1
         clear hi
         refine AnyOrder.wpOp_go rfl (by rfl) ?_
         go_wp2_with fail
         exact ⟨l0, l1, l2, l3, true, l5, l6, l7, l8, l9, l10, l11, l12, l13, l14, g, v1, v2, v3, rfl, rfl, HF⟩
        ·
         obtain rfl : l5 = false := (AnyOrder.mem_ready hi).2.1
         clear hi
         refine AnyOrder.wpOp_go rfl (by rfl) ?_
         go_wp2_with fail
         exact ⟨l0, l1, l2, l3, l4, true, l6, l7, l8, l9, l10, l11, l12, l13, l14, g, v1, v2, v3, rfl, rfl, HF⟩
        ·
         obtain rfl : l6 = false := (AnyOrder.mem_ready hi).2.1
         obtain rfl : l4 = true := AnyOrder.dep (q := 0) hi rfl rfl rfl
         obtain rfl : l5 = true := AnyOrder.dep (q := 1) hi rfl rfl rfl
         clear hi
         simp only [sel_true, selv_true] at hK ⊢
         have hkk := HXI.out.1
         have hkl2 := HXI.out.2
         refine AnyOrder.wpOp_go rfl (by rfl) ?_
         go_wp2_with fail
         exact ⟨l0, l1, l2, l3, true, true, true, l7, l8, l9, l10, l11, l12, l13, l14, g, v1, v2, v3, rfl, rfl, HF⟩
        ·
         obtain rfl : l7 = false := (AnyOrder.mem_ready hi).2.1
         obtain rfl : l6 = true := AnyOrder.dep (q := 0) hi rfl rfl rfl
         clear hi
         simp only [sel_true, selv_true] at hK ⊢
         obtain ⟨g0, g1, g2, g3, g4, g5⟩ := HG.out
         have g0 := pw_cell_below HF.out.below g0
         have g1 := pw_cell_below HF.out.below g1
         have g2 := pw_cell_below HF.out.below g2
         have g3 := pw_cell_below HF.out.below g3
         have g4 := pw_cell_below HF.out.below g4
         have g5 := pw_cell_below HF.out.below g5
         refine AnyOrder.wpOp_go rfl (by rfl) ?_
         go_wp2_with fail
         exact ⟨l0, l1, l2, l3, l4, l5, true, true, l8, l9, l10, l11, l12, l13, l14, g, v1, v2, v3, rfl, rfl, HF⟩
        ·
         obtain rfl : l8 = false := (AnyOrder.mem_ready hi).2.1
         obtain rfl : l7 = true := AnyOrder.dep (q := 0) hi rfl rfl rfl
         clear hi
         simp only [sel_true, selv_true] at hK ⊢
         obtain ⟨rfl, rfl, rfl⟩ := HF.out.no (.inr rfl)
         have hb1 := (Gr.alloc V (boxN x)).below
         refine AnyOrder.wpOp_go rfl (by rfl) ?_
         go_wp2_with fail
         exact ⟨l0, l1, l2, l3, l4, l5, l6, true, true, false, l10, l11, l12, false, false, V.heap.size, v1, v2, v3, rfl, rfl, ⟨⟨fun h => (by cases h), fun h => (by cases h), fun h => (by cases h), below_more HF.out.below hb1, fun h _ => RN.below' (HF.out.r1 h rfl) hb1, fun _ _ => blk_new _ _, fun h _ => (by cases h), fun h => (by cases h)⟩⟩⟩
        ·
         obtain rfl : l9 = false := (AnyOrder.mem_ready hi).2.1
         obtain rfl : l3 = true := AnyOrder.dep (q := 0) hi rfl rfl rfl
         obtain rfl : l8 = true := AnyOrder.dep (q := 1) hi rfl rfl rfl
         clear hi
         simp only [sel_true, selv_true] at hK ⊢
         obtain rfl : l13 = false := by cases l13 with | false => rfl | true => cases HF.out.ord13 rfl
         obtain rfl : l14 = false := by cases l14 with | false => rfl | true => cases (HF.out.ord14 rfl).1
         have hr1 := HF.out.r1 rfl rfl
         refine AnyOrder.wpOp_go rfl (by rfl) ?_
         refine op_append_node V9.drew.heap.size rfl (.tmp 41) (.tmp 46) rfl v1 (out.take k) [x] (some ⟨g, 0, none⟩) 1 1 rfl rfl hr1 (boxN_C (HF.out.bx rfl rfl)) HF.out.below.size (by have h1 := HKC.out.1; have h2 := HKC.out.2; rw [List.length_take]; omega) ?_
         intro u2 V2 hr2 hg2 _
         exact hK _ _ ⟨l0, l1, l2, true, l4, l5, l6, l7, true, true, l10, l11, l12, false, false, g, v1, u2, v3, rfl, rfl, ⟨⟨fun _ => ⟨rfl, rfl⟩, fun h => (by cases h), fun h => (by cases h), grown_below HF.out.below hr1 hg2, fun _ h => (by cases h), fun _ h => (by cases h), fun _ _ => hr2, fun h => (by cases h)⟩⟩⟩
        ·
         obtain rfl : l10 = false := (AnyOrder.mem_ready hi).2.1
         clear hi
         obtain rfl : l14 = false := by cases l14 with | false => rfl | true => cases (HF.out.ord14 rfl).2.2
         (try simp only [sel_false, selv_false] at hK ⊢)
         refine AnyOrder.wpOp_go rfl (by rfl) ?_
         go_wp2_with fail
         exact ⟨l0, l1, l2, l3, l4, l5, l6, l7, l8, l9, true, l11, l12, l13, false, g, v1, v2, v3, rfl, rfl, ⟨⟨HF.out.ord9, HF.out.ord13, fun h => (by cases h), HF.out.below, HF.out.r1, HF.out.bx, HF.out.r2, HF.out.r3⟩⟩⟩
        ·
         obtain rfl : l11 = false := (AnyOrder.mem_ready hi).2.1
         clear hi
         refine AnyOrder.wpOp_go rfl (by rfl) ?_
         go_wp2_with fail
         exact ⟨l0, l1, l2, l3, l4, l5, l6, l7, l8, l9, l10, true, l12, l13, l14, g, v1, v2, v3, rfl, rfl, HF⟩
        ·
         obtain rfl : l12 = false := (AnyOrder.mem_ready hi).2.1
         obtain rfl : l10 = true := AnyOrder.dep (q := 0) hi rfl rfl rfl
         obtain rfl : l11 = true := AnyOrder.dep (q := 1) hi rfl rfl rfl
         clear hi
         simp only [sel_true, selv_true] at hK ⊢
         refine AnyOrder.wpOp_go rfl (by rfl) ?_
         refine op_slice 22 (.tmp 48) (some (.tmp 49)) none rfl rfl rfl rfl (HCF.out V) ?_
         exact hK _ _ ⟨l0, l1, l2, l3, l4, l5, l6, l7, l8, l9, true, true, true, l13, l14, g, v1, v2, v3, rfl, rfl, HF⟩
        ·
         obtain rfl : l13 = false := (AnyOrder.mem_ready hi).2.1
         obtain rfl : l9 = true := AnyOrder.dep (q := 0) hi rfl rfl rfl
         obtain rfl : l12 = true := AnyOrder.dep (q := 1) hi rfl rfl rfl
         clear hi
         simp only [sel_true, selv_true] at hK ⊢
         obtain rfl : l14 = false := by cases l14 with | false => rfl | true => cases (HF.out.ord14 rfl).1
         have hr2 := HF.out.r2 rfl rfl
         refine AnyOrder.wpOp_go rfl (by rfl) ?_
         refine op_append_node V9.drew.heap.size rfl (.tmp 47) (.tmp 50) rfl v2 (out.take k ++ [x]) (out.drop k) Ac m3 q3 rfl rfl hr2 (Kd.C_below HCD.out HF.out.below) HF.out.below.size (by have h1 := HKC.out.1; have h2 := HKC.out.2; have h3 := Hm3.out; rw [List.length_append, List.length_take, List.length_singleton]; omega) ?_
         intro u3 V3 hr3 hg3 _
         exact hK _ _ ⟨l0, l1, l2, l3, l4, l5, l6, l7, l8, true, l10, l11, true, true, false, g, v1, v2, u3, rfl, rfl, ⟨⟨HF.out.ord9, fun _ => rfl, fun h => (by cases h), grown_below HF.out.below hr2 hg3, fun _ h => (by cases h), fun _ h => (by cases h), fun _ h => (by cases h), fun _ => by rw [HCUT.out]; exact hr3⟩⟩⟩
        ·
         obtain rfl : l14 = false := (AnyOrder.mem_ready hi).2.1
         obtain rfl : l13 = true := AnyOrder.dep (q := 0) hi rfl rfl rfl
         obtain rfl : l0 = true := AnyOrder.dep (q := 2) hi rfl rfl rfl
         obtain rfl : l1 = true := AnyOrder.dep (q := 3) hi rfl rfl rfl
         obtain rfl : l2 = true := AnyOrder.dep (q := 4) hi rfl rfl rfl
         obtain rfl : l3 = true := AnyOrder.dep (q := 5) hi rfl rfl rfl
         obtain rfl : l4 = true := AnyOrder.dep (q := 6) hi rfl rfl rfl
         obtain rfl : l5 = true := AnyOrder.dep (q := 7) hi rfl rfl rfl
         obtain rfl : l6 = true := AnyOrder.dep (q := 8) hi rfl rfl rfl
         obtain rfl : l7 = true := AnyOrder.dep (q := 9) hi rfl rfl rfl
         obtain rfl : l8 = true := AnyOrder.dep (q := 10) hi rfl rfl rfl
         obtain rfl : l9 = true := AnyOrder.dep (q := 11) hi rfl rfl rfl
         obtain rfl : l10 = true := AnyOrder.dep (q := 12) hi rfl rfl rfl
         obtain rfl : l11 = true := AnyOrder.dep (q := 13) hi rfl rfl rfl
         obtain rfl : l12 = true := AnyOrder.dep (q := 14) hi rfl rfl rfl
         clear hi
         simp only [sel_true, selv_true] at hK ⊢
         refine AnyOrder.wpOp_go rfl (by rfl) ?_
         go_wp2_with fail
         exact ⟨true, true, true, true, true, true, true, true, true, true, true, true, true, true, true, g, v1, v2, v3, rfl, rfl, ⟨⟨HF.out.ord9, HF.out.ord13, fun _ => ⟨rfl, rfl, rfl⟩, HF.out.below, HF.out.r1, HF.out.bx, HF.out.r2, HF.out.r3⟩⟩⟩
       case last =>
        rintro L ac V ⟨l0, l1, l2, l3, l4, l5, l6, l7, l8, l9, l10, l11, l12, l13, l14, g, v1, v2, v3, rfl, rfl, HF⟩ hr
        have hall := AnyOrder.all_listed rfl (by kernel_rfl) hr
        clear hr
        obtain rfl : l0 = true := hall 0 (by decide)
        obtain rfl : l1 = true := hall 1 (by decide)
        obtain rfl : l2 = true := hall 2 (by decide)
        obtain rfl : l3 = true := hall 3 (by decide)
        obtain rfl : l4 = true := hall 4 (by decide)
        obtain rfl : l5 = true := hall 5 (by decide)
        obtain rfl : l6 = true := hall 6 (by decide)
        obtain rfl : l7 = true := hall 7 (by decide)
        obtain rfl : l8 = true := hall 8 (by decide)
        obtain rfl : l9 = true := hall 9 (by decide)
        obtain rfl : l10 = true := hall 10 (by decide)
        obtain rfl : l11 = true := hall 11 (by decide)
        obtain rfl : l12 = true := hall 12 (by decide)
        obtain rfl : l13 = true := hall 13 (by decide)
        obtain rfl : l14 = true := hall 14 (by decide)
        clear hall
        simp only [sel_true, selv_true]
        have HR3 := Aside0.mk (HF.out.r3 rfl)
        have HB3 := Aside0.mk (below_more HB9.out HF.out.below)
        have HK3 := Aside0.mk (blk_keep (blk_keep HHK.out (below_drew1 HHF.out)) HF.out.below)
        have hn4 := HXI.out.2
        obtain ⟨A3, c3, rfl⟩ := RN.slice HR3.out
        obtain ⟨n3, hn3⟩ : ∃ n3, (insB x out).length = n3 := ⟨_, rfl⟩
        rw [hn3] at HR3 ⊢
        clear HF hn3
        go_wp2
        go_roundw
        case rel => exact ⟨i' + 1, A3, n3, c3, by omega, by go_num, rfl, ⟨by rw [HST.out]; exact Kd.R_lower HR3.out HB9.out.size⟩, HK3, HB3⟩
        case measure => simp [intOf] <;> omega
   ·
    have hne : (x.f1.f0 == d.f0 && (x.f1.f1 == d.f1)) = false := by
     rw [Bool.eq_false_iff]
     intro h
     simp only [Bool.and_eq_true, beq_iff_eq] at h
     exact hxd (Dot.ext_iff'.2 h)
    rw [if_neg hxd] at HST
    clear hxd
    go_wp2
    go_quiet (fail)
    have hd := (Gr.drawn (w := wr) ⟨nq, rfl⟩).below
    go_wp2
    go_roundw
    case rel => exact ⟨i' + 1, Ao, no, co, by omega, by go_num, rfl, ⟨by rw [HST.out]; exact RN.below' HO.out hd⟩, ⟨blk_keep HK.out hd⟩, ⟨below_more HB.out hd⟩⟩
    case measure => simp [intOf] <;> omega
  ·
   obtain rfl : i' = n := by omega
   have hltb : decide ((i' : Int) < (i' : Int)) = false := decide_eq_false (by omega)
   have hall : l0.take i' = l0 := List.take_of_length_le (Nat.le_of_eq Hn.out)
   rw [hall] at HO
   go_wp2
   go_ret
   exact ⟨_, rfl, HO.out, HB.out⟩
end Go.Proofs.YtjlpaagnajmogaaGreat.PWalk
end
