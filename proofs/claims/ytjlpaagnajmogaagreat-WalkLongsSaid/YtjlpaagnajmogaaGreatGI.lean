/-
  The law WalkLongs: the walk and the row. Part 9 of 9.
-/
import Derived.Test.YtjlpaagnajmogaaGreatGH
import Derived.Test.YtjlpaagnajmogaaGreatRows
import Derived.WalkKit
import Derived.ProofKit
import Derived.OpenShut
import Derived.ShutString
import Derived.ChangeOld
import Derived.Below
import Derived.SizedLaws
import Derived.Deep.DeepHandedRow
import Derived.Deep.Slices
import Derived.Lib.SmallJoins
section
namespace Go.Proofs.YtjlpaagnajmogaaGreat.PWalk
open Go.RowKit Go.Proofs.YtjlpaagnajmogaaGreatW.PrintWords Go.Proofs.YtjlpaagnajmogaaGreatW.PrintLast Go.Proofs.YtjlpaagnajmogaaGreatW.PrintMore
set_option linter.unusedVariables false
set_option linter.unusedSimpArgs false
def redpencillaw11_ordered.f (k : Nat) (l0 : List (S35)) (l1 : List (S35)) (a2 : Int) : Option (Bool) := (walk_Order.f l0).bind fun bt222 => ((redpencilref10_Equal.f k bt222.1 l1).bind fun t226 => (if t226 = true then (some (bt222.2 == a2)) else (some false)))
set_option maxHeartbeats 8000000 in
set_option maxRecDepth 100000 in
theorem redpencillaw11_ordered.calls (k : Nat) (A0 : Option Addr) (c0 : Nat) (l0 : List (S35)) (A1 : Option Addr) (c1 : Nat) (l1 : List (S35)) (a2 : Int) (r : Bool) (w : World) (hr0 : Kd.C k35 w A0 l0.length l0) (hc0 : l0.length ≤ c0) (hr1 : Kd.C k35 w A1 l1.length l1) (hc1 : l1.length ≤ c1) (h : redpencillaw11_ordered.f k l0 l1 a2 = some r) :
  Calls Tryz.prog 20 #[.slice A0 l0.length c0, .slice A1 l1.length c1, .int .i64 a2] w fun e w' => e = .returned (.bool r) ∧ Below w.heap.size w w' := by
 have HR0 := Aside0.mk hr0
 have HC0 := Aside0.mk hc0
 clear hr0 hc0
 have HR1 := Aside0.mk hr1
 have HC1 := Aside0.mk hc1
 clear hr1 hc1
 have HB := Aside0.mk (Below.refl w.heap.size w)
 have H : ((walk_Order.f l0).bind fun bt222 => ((redpencilref10_Equal.f k bt222.1 l1).bind fun t226 => (if t226 = true then (some (bt222.2 == a2)) else (some false)))) = some r := h
 clear h
 replace H := Option.bind_eq_some_iff.mp H
 obtain ⟨⟨t222, t223⟩, A40, H⟩ := H
 replace H : ((redpencilref10_Equal.f k t222 l1).bind fun t226 => (if t226 = true then (some (t223 == a2)) else (some false))) = some r := H
 have A4 := Aside0.mk A40
 clear A40
 replace H := Option.bind_eq_some_iff.mp H
 obtain ⟨t226, A50, H⟩ := H
 replace H : (if t226 = true then (some (t223 == a2)) else (some false)) = some r := H
 have A5 := Aside0.mk A50
 clear A50
 by_cases c6 : t226 = true
 ·
  subst c6
  have H1 : (some (t223 == a2)) = some r := by rw [if_pos rfl] at H; exact H
  clear H
  have H := H1
  clear H1
  obtain rfl := Option.some.inj H
  go_enter Tryz.func20, Tryz.ntmps20
  go_wp2_with (first | ((with_reducible refine gate_callee (f := 50) rfl ?_); refine goesL_ (some 11) rfl rfl Tryz.func50 (by kernel_rfl) rfl #[.slice A0 l0.length c0] rfl (by (try simp only [List.map_toArray, List.map_cons, List.map_nil]); first | done | rfl | (simp only [List.length_drop, List.length_take]; rfl)) ?_; (with_reducible refine (walk_Order.calls _ _ l0 t222 t223 _ ?side1 ?side2 A4.out).mono ?_); (case side1 => repeat (first | exact HR0.out | (with_reducible refine Kd.C_alloc ?_ _) | (with_reducible refine Kd.C_drewN ?_ _) | (with_reducible refine Kd.C_drew ?_))); (case side2 => exact HC0.out); rintro e w7 ⟨v224, rfl, ho0, hb⟩; refine ⟨_, rfl, ?_⟩; have n0_ := Aside0.mk (Kd.R_lower ho0 (below_size (by repeat (first | (with_reducible first | exact HB.out | apply below_alloc | apply pw_below_drewN | apply below_drew1) | exact HB.out)))); have n1_ := Aside0.mk (below_step (by repeat (first | (with_reducible first | exact HB.out | apply below_alloc | apply pw_below_drewN | apply below_drew1) | exact HB.out)) hb); clear HB; have HO225 := n0_; have HB := n1_; clear n0_ n1_; (try clear hb); (try clear hb2); (try clear hk); (try clear hi); (try clear ho0); obtain ⟨Ao8, co8, eo8⟩ := Kd.R_slice HO225.out; subst eo8) | ((with_reducible refine gate_callee (f := 18) rfl ?_); refine goesL_ (some 16) rfl rfl Tryz.func18 (by kernel_rfl) rfl #[.slice Ao8 t222.length co8, .slice A1 l1.length c1] rfl (by (try simp only [List.map_toArray, List.map_cons, List.map_nil]); first | done | rfl | (simp only [List.length_drop, List.length_take]; rfl)) ?_; (with_reducible refine (redpencilref10_Equal.calls k _ _ t222 _ _ l1 true _ ?side1 ?side2 ?side3 ?side4 A5.out).mono ?_); (case side1 => repeat (first | exact (Kd.R_reads' HO225.out).2.2 | (with_reducible refine Kd.C_alloc ?_ _) | (with_reducible refine Kd.C_drewN ?_ _) | (with_reducible refine Kd.C_drew ?_))); (case side2 => exact (Kd.R_reads' HO225.out).2.1); (case side3 => repeat (first | exact (Kd.C_below HR1.out HB.out) | (with_reducible refine Kd.C_alloc ?_ _) | (with_reducible refine Kd.C_drewN ?_ _) | (with_reducible refine Kd.C_drew ?_))); (case side4 => exact HC1.out); rintro e w' ⟨rfl, ⟨nd, rfl⟩⟩; refine ⟨_, rfl, ?_⟩))
  go_ret
  exact ⟨by first | rfl | (simp [errW_none, errW_some] <;> rfl) | (simp [*, errW_none, errW_some] <;> rfl), by repeat (first | (with_reducible first | exact HB.out | apply below_alloc | apply pw_below_drewN | apply below_drew1) | exact HB.out)⟩
 ·
  replace c6 := Bool.eq_false_iff.mpr c6
  subst c6
  have H1 : (some false) = some r := by rw [if_neg (show ¬ (false = true) by decide)] at H; exact H
  clear H
  have H := H1
  clear H1
  obtain rfl := Option.some.inj H
  go_enter Tryz.func20, Tryz.ntmps20
  go_wp2_with (first | ((with_reducible refine gate_callee (f := 50) rfl ?_); refine goesL_ (some 11) rfl rfl Tryz.func50 (by kernel_rfl) rfl #[.slice A0 l0.length c0] rfl (by (try simp only [List.map_toArray, List.map_cons, List.map_nil]); first | done | rfl | (simp only [List.length_drop, List.length_take]; rfl)) ?_; (with_reducible refine (walk_Order.calls _ _ l0 t222 t223 _ ?side1 ?side2 A4.out).mono ?_); (case side1 => repeat (first | exact HR0.out | (with_reducible refine Kd.C_alloc ?_ _) | (with_reducible refine Kd.C_drewN ?_ _) | (with_reducible refine Kd.C_drew ?_))); (case side2 => exact HC0.out); rintro e w9 ⟨v224, rfl, ho0, hb⟩; refine ⟨_, rfl, ?_⟩; have n0_ := Aside0.mk (Kd.R_lower ho0 (below_size (by repeat (first | (with_reducible first | exact HB.out | apply below_alloc | apply pw_below_drewN | apply below_drew1) | exact HB.out)))); have n1_ := Aside0.mk (below_step (by repeat (first | (with_reducible first | exact HB.out | apply below_alloc | apply pw_below_drewN | apply below_drew1) | exact HB.out)) hb); clear HB; have HO225 := n0_; have HB := n1_; clear n0_ n1_; (try clear hb); (try clear hb2); (try clear hk); (try clear hi); (try clear ho0); obtain ⟨Ao10, co10, eo10⟩ := Kd.R_slice HO225.out; subst eo10) | ((with_reducible refine gate_callee (f := 18) rfl ?_); refine goesL_ (some 16) rfl rfl Tryz.func18 (by kernel_rfl) rfl #[.slice Ao10 t222.length co10, .slice A1 l1.length c1] rfl (by (try simp only [List.map_toArray, List.map_cons, List.map_nil]); first | done | rfl | (simp only [List.length_drop, List.length_take]; rfl)) ?_; (with_reducible refine (redpencilref10_Equal.calls k _ _ t222 _ _ l1 false _ ?side1 ?side2 ?side3 ?side4 A5.out).mono ?_); (case side1 => repeat (first | exact (Kd.R_reads' HO225.out).2.2 | (with_reducible refine Kd.C_alloc ?_ _) | (with_reducible refine Kd.C_drewN ?_ _) | (with_reducible refine Kd.C_drew ?_))); (case side2 => exact (Kd.R_reads' HO225.out).2.1); (case side3 => repeat (first | exact (Kd.C_below HR1.out HB.out) | (with_reducible refine Kd.C_alloc ?_ _) | (with_reducible refine Kd.C_drewN ?_ _) | (with_reducible refine Kd.C_drew ?_))); (case side4 => exact HC1.out); rintro e w' ⟨rfl, ⟨nd, rfl⟩⟩; refine ⟨_, rfl, ?_⟩))
  go_ret
  exact ⟨by first | rfl | (simp [errW_none, errW_some] <;> rfl) | (simp [*, errW_none, errW_some] <;> rfl), by repeat (first | (with_reducible first | exact HB.out | apply below_alloc | apply pw_below_drewN | apply below_drew1) | exact HB.out)⟩
end Go.Proofs.YtjlpaagnajmogaaGreat.PWalk
end
section
namespace Go.Proofs.YtjlpaagnajmogaaGreat.PWalk
end Go.Proofs.YtjlpaagnajmogaaGreat.PWalk
end
section
namespace Go.Proofs.YtjlpaagnajmogaaGreat.PWalk
end Go.Proofs.YtjlpaagnajmogaaGreat.PWalk
end
section
namespace Go.Proofs.YtjlpaagnajmogaaGreat.PWalk
end Go.Proofs.YtjlpaagnajmogaaGreat.PWalk
end
section
namespace Go.Proofs.YtjlpaagnajmogaaGreat.PWalk
end Go.Proofs.YtjlpaagnajmogaaGreat.PWalk
end
section
namespace Go.Proofs.YtjlpaagnajmogaaGreat.PWalk
end Go.Proofs.YtjlpaagnajmogaaGreat.PWalk
end
section
namespace Go.Proofs.YtjlpaagnajmogaaGreat.PWalk
end Go.Proofs.YtjlpaagnajmogaaGreat.PWalk
end
section
namespace Go.Proofs.YtjlpaagnajmogaaGreat.PWalk
open Go.RowKit Go.Proofs.YtjlpaagnajmogaaGreatW.PrintWords Go.Proofs.YtjlpaagnajmogaaGreatW.PrintLast Go.Proofs.YtjlpaagnajmogaaGreatW.PrintMore
set_option linter.unusedVariables false
set_option linter.unusedSimpArgs false
open Go.Shelf
attribute [local go_sem] Oper.semAt_some
theorem rdN {l : List Node} {i : Nat} (h : i < l.length) : rd_T35 l (i : Int) = l[i] := by simp [rd_T35, h]
theorem wrap_succ {i n : Nat} (h : i < n) (hn : n ≤ 1000000) : wrap64 ((i : Int) + 1) = ((i + 1 : Nat) : Int) := by unfold wrap64; omega
theorem refEqual_from (l m : List Node) (hlm : l.length = m.length) (hl : l.length ≤ 1000000) : ∀ (q k i : Nat), i + q = l.length → q < k → redpencilref10_Equal.l0 k l m (i : Int) = some (decide (l.drop i = m.drop i)) := by
 intro q
 induction q with
 | zero =>
  intro k i hd hk
  obtain ⟨k, rfl⟩ : ∃ m, k = m + 1 := ⟨k - 1, by omega⟩
  simp only [redpencilref10_Equal.l0]
  rw [if_neg (by omega), List.drop_of_length_le (by omega), List.drop_of_length_le (by omega)]; simp
 | succ q ih =>
  intro k i hd hk
  obtain ⟨k, rfl⟩ : ∃ m, k = m + 1 := ⟨k - 1, by omega⟩
  simp only [redpencilref10_Equal.l0]
  have hi : i < l.length := by omega
  have hi2 : i < m.length := by omega
  rw [if_pos (by omega), if_pos (by omega), if_pos (by omega), rdN hi, rdN hi2, wrap_succ hi hl, ih k (i + 1) (by omega) (by omega), List.drop_eq_getElem_cons hi, List.drop_eq_getElem_cons hi2]
  by_cases e : l[i] = m[i]
  ·
   rw [if_neg (by simp [e])]
   rw [e]
   simp only [List.cons.injEq, true_and]
  ·
   have hne : ¬ (l[i] :: l.drop (i + 1) = m[i] :: m.drop (i + 1)) := fun h => e (List.cons.inj h).1
   rw [if_pos, decide_eq_false hne]
   rw [Node.ext_iff', Dot.ext_iff', Dot.ext_iff'] at e
   simp
   by_cases a1 : l[i].f0.f0 = m[i].f0.f0 <;> by_cases a2 : l[i].f0.f1 = m[i].f0.f1 <;> by_cases a3 : l[i].f1.f0 = m[i].f1.f0 <;> by_cases a4 : l[i].f1.f1 = m[i].f1.f1 <;> by_cases a5 : l[i].f2 = m[i].f2 <;> simp_all
theorem refEqual_is (l m : List Node) (hl : l.length ≤ 1000000) (k : Nat) (hk : l.length < k) : redpencilref10_Equal.f k l m = some (decide (l = m)) := by
 unfold redpencilref10_Equal.f
 by_cases h : l.length = m.length
 ·
  rw [if_pos (by omega)]
  have := refEqual_from l m h hl l.length k 0 (by omega) hk
  simpa using this
 ·
  rw [if_neg (by omega)]
  have : ¬ l = m := fun e => h (by rw [e])
  simp [this]
theorem rdD {l : List Dot} {i : Nat} (h : i < l.length) : rd_T24 l (i : Int) = l[i] := by simp [rd_T24, h]
theorem dot_beq (a b : Dot) : (a.f0 == b.f0 && (a.f1 == b.f1)) = decide (a = b) := by
 by_cases h : a = b
 ·
  subst h; simp
 ·
  rw [decide_eq_false h, Bool.eq_false_iff]
  intro hh
  simp only [Bool.and_eq_true, beq_iff_eq] at hh
  exact h (Dot.ext_iff'.2 hh)
theorem refSameD_from (l m : List Dot) (hlm : l.length = m.length) (hl : l.length ≤ 1000000) : ∀ (q k i : Nat), i + q = l.length → q < k → redpencilref04_Same.l0 k l m (i : Int) = some (decide (l.drop i = m.drop i)) := by
 intro q
 induction q with
 | zero =>
  intro k i hi hk
  obtain ⟨k, rfl⟩ : ∃ m, k = m + 1 := ⟨k - 1, by omega⟩
  simp only [redpencilref04_Same.l0]
  rw [if_neg (by omega), List.drop_of_length_le (by omega), List.drop_of_length_le (by omega)]; simp
 | succ q ih =>
  intro k i hi hk
  obtain ⟨k, rfl⟩ : ∃ m, k = m + 1 := ⟨k - 1, by omega⟩
  have hlt : i < l.length := by omega
  have hlt2 : i < m.length := by omega
  simp only [redpencilref04_Same.l0]
  have hm : l.drop i = m.drop i ↔ l[i] = m[i] ∧ l.drop (i + 1) = m.drop (i + 1) := by rw [List.drop_eq_getElem_cons hlt, List.drop_eq_getElem_cons hlt2, List.cons.injEq]
  rw [if_pos (by omega), if_pos (by omega), if_pos (by omega), rdD hlt, rdD hlt2, ← Bool.not_and, dot_beq, wrap_succ hlt hl, ih k (i + 1) (by omega) (by omega)]
  by_cases h : l[i] = m[i]
  ·
   rw [decide_eq_true h, if_neg (by simp)]
   congr 1
   rw [decide_eq_decide, hm]
   exact ⟨fun e => ⟨h, e⟩, fun e => e.2⟩
  ·
   rw [decide_eq_false h, if_pos (show (!false) = true from rfl), decide_eq_false (fun e => h (hm.1 e).1)]
theorem refSameD_is (l m : List Dot) (hl : l.length ≤ 1000000) (k : Nat) (hk : l.length < k) : redpencilref04_Same.f k l m = some (decide (l = m)) := by
 unfold redpencilref04_Same.f
 by_cases h : l.length = m.length
 ·
  rw [if_pos (by omega)]
  have := refSameD_from l m h hl l.length k 0 (by omega) hk
  simpa using this
 ·
  rw [if_neg (by omega)]
  have : l ≠ m := fun e => h (by rw [e])
  simp [this]
end Go.Proofs.YtjlpaagnajmogaaGreat.PWalk
end
section
namespace Go.Proofs.YtjlpaagnajmogaaGreat.PWalk
open Go.RowKit Go.Proofs.YtjlpaagnajmogaaGreatW.PrintWords Go.Proofs.YtjlpaagnajmogaaGreatW.PrintLast Go.Proofs.YtjlpaagnajmogaaGreatW.PrintMore
set_option linter.unusedVariables false
set_option linter.unusedSimpArgs false
open Go.Shelf
attribute [local go_sem] Oper.semAt_some
theorem ordered_is {l want : List Node} (hl : l.length ≤ 1000000) (hs : storeOk l = true) (hw : want = nds (ordOf l)) {k : Nat} (hk : (ordOf l).length < k) : redpencillaw11_ordered.f k l want 0 = some true := by
 subst hw
 have hle := ord_le (store_of hs)
 unfold redpencillaw11_ordered.f walk_Order.f
 rw [if_pos hl, if_pos hs]
 simp only [Option.bind_some]
 have := refEqual_is (nds (ordOf l)) (nds (ordOf l)) (by unfold nds; rw [List.length_map]; omega) k (by unfold nds; rw [List.length_map]; omega)
 unfold nds at this ⊢
 rw [this]
 simp
end Go.Proofs.YtjlpaagnajmogaaGreat.PWalk
end
section
namespace Go.Proofs.YtjlpaagnajmogaaGreat.PWalk
end Go.Proofs.YtjlpaagnajmogaaGreat.PWalk
end
section
namespace Go.Proofs.YtjlpaagnajmogaaGreat.PWalk
end Go.Proofs.YtjlpaagnajmogaaGreat.PWalk
end
section
namespace Go.Proofs.YtjlpaagnajmogaaGreat.PWalk
open Go.RowKit Go.Proofs.YtjlpaagnajmogaaGreatW.PrintWords Go.Proofs.YtjlpaagnajmogaaGreatW.PrintLast Go.Proofs.YtjlpaagnajmogaaGreatW.PrintMore
set_option linter.unusedVariables false
set_option linter.unusedSimpArgs false
open Go.Shelf
attribute [local go_sem] Oper.semAt_some
def upL (ch : Bool) (k : Nat) : Dot := if k = 0 then ⟨0, 0⟩ else if ch = true then ⟨1, (k : Int)⟩ else ⟨1, 1⟩
def longN (ch : Bool) (k : Nat) : Node := ⟨⟨1, (k : Int) + 1⟩, upL ch k, (k : Int) + 1, 97⟩
def longL (ch : Bool) (m : Nat) : List Node := (List.range m).map (longN ch)
theorem longL_length (ch : Bool) (m : Nat) : (longL ch m).length = m := by simp [longL]
theorem longL_succ (ch : Bool) (m : Nat) : longL ch (m + 1) = longL ch m ++ [longN ch m] := by simp [longL, List.range_succ]
theorem mem_longL {ch : Bool} {m : Nat} {x : Node} : x ∈ longL ch m ↔ ∃ k, k < m ∧ x = longN ch k := by
 unfold longL
 rw [List.mem_map]
 constructor
 ·
  rintro ⟨k, h, rfl⟩; exact ⟨k, by simpa using h, rfl⟩
 ·
  rintro ⟨k, h, rfl⟩; exact ⟨k, by simpa using h, rfl⟩
theorem longN_inj {ch : Bool} {a b : Nat} (h : longN ch a = longN ch b) : a = b := by
 have : ((a : Int) + 1) = (b : Int) + 1 := congrArg (fun x : Node => x.f2) h
 omega
theorem longs_nodup (ch : Bool) {s : List Nat} (h : s.Nodup) : (s.map (longN ch)).Nodup := by
 unfold List.Nodup at *
 rw [List.pairwise_map]
 exact h.imp fun hn he => hn (longN_inj he)
theorem nodeOk_long (ch : Bool) {k : Nat} (hk : k < 4294967295) : nodeOk (longN ch k) = true := by
 have h1 : dotOk (longN ch k).f0 = true := by
  refine decide_eq_true ⟨by show (1 : Int) ≤ 1; omega, by show (1 : Int) ≤ 64; omega, by show (1 : Int) ≤ (k : Int) + 1; omega, by show (k : Int) + 1 ≤ _; omega⟩
 have h2 : dotRoot (longN ch k).f1 = true ∨ dotOk (longN ch k).f1 = true := by
  show dotRoot (upL ch k) = true ∨ dotOk (upL ch k) = true
  unfold upL
  by_cases hz : k = 0
  ·
   rw [if_pos hz]; exact .inl (by decide)
  ·
   rw [if_neg hz]
   by_cases hc : ch = true
   ·
    rw [if_pos hc]; exact .inr (decide_eq_true ⟨by show (1 : Int) ≤ 1; omega, by show (1 : Int) ≤ 64; omega, by show (1 : Int) ≤ (k : Int); omega, by show (k : Int) ≤ _; omega⟩)
   ·
    rw [if_neg hc]; exact .inr (by decide)
 have h3 : (longN ch k).f1 ≠ (longN ch k).f0 := by
  show upL ch k ≠ ⟨1, (k : Int) + 1⟩
  intro he
  have he2 := congrArg (fun d : Dot => d.f1) he
  unfold upL at he2
  by_cases hz : k = 0
  ·
   rw [if_pos hz] at he2; simp only at he2; omega
  ·
   rw [if_neg hz] at he2
   by_cases hc : ch = true
   ·
    rw [if_pos hc] at he2; simp only at he2; omega
   ·
    rw [if_neg hc] at he2; simp only at he2; omega
 refine decide_eq_true ⟨h1, h2, h3, ?_, ?_, .inr (by show runeOk 97 = true; decide)⟩
 ·
  show (1 : Int) ≤ (k : Int) + 1; omega
 ·
  show (k : Int) + 1 ≤ _; omega
theorem inc_back : ∀ {l : List Node}, Inc l → incB (l.map (·.f0)) = true
 | [], _ => rfl
 | [_], _ => rfl
 | a :: b :: l, h => by
  have h' := List.pairwise_cons.1 h
  show (dotLt a.f0 b.f0 && incB ((b :: l).map (·.f0))) = true
  rw [h'.1 b (List.mem_cons_self ..), inc_back h'.2]; rfl
theorem inc_long (ch : Bool) (m : Nat) : Inc (longL ch m) := by
 unfold Inc longL
 rw [List.pairwise_map]
 refine List.pairwise_lt_range.imp fun {a b} h => decide_eq_true (.inl ?_)
 show (a : Int) + 1 < (b : Int) + 1
 omega
theorem store_long (ch : Bool) {m : Nat} (hm : m ≤ 400) : storeOk (longL ch m) = true := by
 unfold storeOk
 rw [inc_back (inc_long ch m), Bool.and_true, List.all_eq_true]
 intro x hx
 obtain ⟨k, hk, rfl⟩ := mem_longL.1 hx
 exact nodeOk_long ch (by omega)
theorem kids_are {l b : List Node} {d : Dot} (hs : Store l) (hb : SortedN b) (hn : b.Nodup) (hm : ∀ x, x ∈ b ↔ x ∈ l ∧ x.f1 = d) : kids l d = b := by
 refine sorted_unique ((List.perm_ext_iff_of_nodup (kids_nodup hs d) hn).2 fun x => by rw [mem_kids, hm]) (kids_sorted l d) hb fun x hx y hy e => inc_eq hs.inc (mem_kids.1 hx).1 (mem_kids.1 hy).1 e
/-- The children in a chain. -/
theorem kids_chain {m k : Nat} (hm : m ≤ 400) (hk : k < m) : kids (longL true m) (upL true k) = [longN true k] := by
 refine kids_are (store_of (store_long true hm)) (List.pairwise_singleton _ _) (by simp) fun x => ?_
 rw [List.mem_singleton]
 constructor
 ·
  rintro rfl; exact ⟨mem_longL.2 ⟨k, hk, rfl⟩, rfl⟩
 ·
  rintro ⟨h, e⟩
  obtain ⟨j, hj, rfl⟩ := mem_longL.1 h
  have e : upL true j = upL true k := e
  have e2 := congrArg (fun d : Dot => d.f1) e
  unfold upL at e2
  simp only [if_true] at e2
  have : j = k := by
   by_cases h1 : j = 0 <;> by_cases h2 : k = 0 <;> simp only [h1, h2, if_true, if_false] at e2 <;> omega
  rw [this]
theorem kids_chain_end {m : Nat} (hm : m ≤ 400) (h0 : 0 < m) : kids (longL true m) (upL true m) = [] := by
 refine kids_are (store_of (store_long true hm)) List.Pairwise.nil List.nodup_nil fun x => ?_
 constructor
 ·
  intro h; cases h
 ·
  rintro ⟨h, e⟩
  obtain ⟨j, hj, rfl⟩ := mem_longL.1 h
  have e : upL true j = upL true m := e
  have e2 := congrArg (fun d : Dot => d.f1) e
  unfold upL at e2
  rw [if_neg (show ¬ m = 0 by omega), if_pos rfl] at e2
  exfalso
  by_cases h1 : j = 0
  ·
   rw [if_pos h1] at e2
   have e2 : (0 : Int) = m := e2
   omega
  ·
   rw [if_neg h1, if_pos rfl] at e2
   have e2 : (j : Int) = m := e2
   omega
theorem longN_dot (ch : Bool) (k : Nat) (h : ch = true) : (longN ch k).f0 = upL ch (k + 1) := by
 subst h
 unfold longN upL
 rw [if_neg (show ¬ k + 1 = 0 by omega), if_pos rfl]
 show (⟨1, (k : Int) + 1⟩ : Dot) = ⟨1, ((k + 1 : Nat) : Int)⟩
 rw [Int.natCast_succ]
def waysC : Nat → List Node
 | 0 => []
 | k + 1 => longN true k :: waysC k
theorem waysC_length : ∀ k, (waysC k).length = k
 | 0 => rfl
 | k + 1 => by rw [waysC, List.length_cons, waysC_length k]
theorem path_chain {m : Nat} : ∀ {k : Nat}, k ≤ m → Path (longL true m) (upL true k) (waysC k)
 | 0, _ => Path.root
 | k + 1, h => by
  rw [← longN_dot true k rfl]
  exact Path.step _ _ (longN true k) (path_chain (by omega)) (mem_longL.2 ⟨k, by omega, rfl⟩) rfl
theorem below_chain {m : Nat} (hm : m ≤ 400) : ∀ (n k dep : Nat), k + n = m → (belowOf (longL true m) dep (upL true k)).map (·.2) = (List.range' k n).map (longN true)
 | 0, k, dep, h => by
  have hs := store_of (store_long true hm)
  obtain rfl : k = m := by omega
  rw [belowOf_kids hs (path_chain (Nat.le_refl _))]
  by_cases h0 : 0 < k
  ·
   rw [kids_chain_end hm h0]; rfl
  ·
   obtain rfl : k = 0 := by omega
   rfl
 | n + 1, k, dep, h => by
  have hs := store_of (store_long true hm)
  rw [belowOf_kids hs (path_chain (k := k) (by omega)), kids_chain hm (by omega), List.flatMap_cons, List.flatMap_nil, List.append_nil, List.map_cons, longN_dot true k rfl, below_chain hm n (k + 1) (dep + 1) (by omega), List.range'_succ]
  rfl
theorem ord_chain {m : Nat} (hm : m ≤ 400) : (ordOf (longL true m)).map (·.2) = longL true m := by
 have h := below_chain hm m 0 0 (by omega)
 show (belowOf (longL true m) 0 (upL true 0)).map (·.2) = _
 rw [h]
 unfold longL
 rw [List.range_eq_range']
/-- A family: the first node, and all others below it. -/
def fanRest (m : Nat) : List Node := ((List.range' 1 (m - 1)).map (longN false)).reverse
theorem longN_up {k : Nat} (h : 1 ≤ k) : (longN false k).f1 = ⟨1, 1⟩ := by
 show upL false k = _
 unfold upL
 rw [if_neg (by omega), if_neg (by decide)]
theorem sorted_fan (m : Nat) : SortedN (fanRest m) := by
 unfold SortedN fanRest
 rw [List.pairwise_reverse, List.pairwise_map]
 refine (List.pairwise_lt_range' (s := 1) (n := m - 1) (step := 1) (by omega)).imp fun {a b} h => ?_
 unfold nodeLt
 have h2 : ¬ (longN false a).f2 = (longN false b).f2 := by show ¬ ((a : Int) + 1 = (b : Int) + 1); omega
 rw [if_neg h2]
 exact decide_eq_false (by show ¬ ((b : Int) + 1 < (a : Int) + 1); omega)
theorem mem_fan {m : Nat} {x : Node} : x ∈ fanRest m ↔ ∃ k, 1 ≤ k ∧ k < m ∧ x = longN false k := by
 unfold fanRest
 rw [List.mem_reverse, List.mem_map]
 constructor
 ·
  rintro ⟨k, h, rfl⟩
  have h := List.mem_range'_1.1 h
  exact ⟨k, h.1, by omega, rfl⟩
 ·
  rintro ⟨k, h1, h2, rfl⟩
  exact ⟨k, List.mem_range'_1.2 ⟨h1, by omega⟩, rfl⟩
theorem kids_fan0 {m : Nat} (hm : m ≤ 400) (h0 : 0 < m) : kids (longL false m) ⟨0, 0⟩ = [longN false 0] := by
 refine kids_are (store_of (store_long false hm)) (List.pairwise_singleton _ _) (by simp) fun x => ?_
 rw [List.mem_singleton]
 constructor
 ·
  rintro rfl; exact ⟨mem_longL.2 ⟨0, h0, rfl⟩, rfl⟩
 ·
  rintro ⟨h, e⟩
  obtain ⟨j, hj, rfl⟩ := mem_longL.1 h
  by_cases hz : j = 0
  ·
   rw [hz]
  ·
   rw [longN_up (by omega)] at e; cases e
theorem kids_fan1 {m : Nat} (hm : m ≤ 400) : kids (longL false m) ⟨1, 1⟩ = fanRest m := by
 refine kids_are (store_of (store_long false hm)) (sorted_fan m) ?_ fun x => ?_
 ·
  unfold fanRest
  exact (List.reverse_perm _).nodup_iff.2 (longs_nodup false (List.nodup_range'))
 ·
  rw [mem_fan]
  constructor
  ·
   rintro ⟨k, h1, h2, rfl⟩; exact ⟨mem_longL.2 ⟨k, h2, rfl⟩, longN_up h1⟩
  ·
   rintro ⟨h, e⟩
   obtain ⟨j, hj, rfl⟩ := mem_longL.1 h
   by_cases hz : j = 0
   ·
    subst hz; cases e
   ·
    exact ⟨j, by omega, hj, rfl⟩
theorem kids_fan2 {m k : Nat} (hm : m ≤ 400) (hk : 1 ≤ k) : kids (longL false m) (longN false k).f0 = [] := by
 refine kids_are (store_of (store_long false hm)) List.Pairwise.nil List.nodup_nil fun x => ?_
 constructor
 ·
  intro h; cases h
 ·
  rintro ⟨h, e⟩
  obtain ⟨j, hj, rfl⟩ := mem_longL.1 h
  exfalso
  by_cases hz : j = 0
  ·
   subst hz
   have e2 := congrArg (fun d : Dot => d.f0) e
   have e2 : (0 : Int) = 1 := e2
   omega
  ·
   rw [longN_up (by omega)] at e
   have e2 := congrArg (fun d : Dot => d.f1) e
   have e2 : (1 : Int) = (k : Int) + 1 := e2
   omega
theorem path_fan {m k : Nat} (hk : 1 ≤ k) (h : k < m) : Path (longL false m) (longN false k).f0 [longN false k, longN false 0] :=
 Path.step (longN false 0).f0 _ (longN false k) (Path.step ⟨0, 0⟩ [] (longN false 0) Path.root (mem_longL.2 ⟨0, by omega, rfl⟩) rfl) (mem_longL.2 ⟨k, h, rfl⟩) (longN_up hk)
theorem path_fan0 {m : Nat} (h : 0 < m) : Path (longL false m) ⟨1, 1⟩ [longN false 0] :=
 Path.step ⟨0, 0⟩ [] (longN false 0) Path.root (mem_longL.2 ⟨0, h, rfl⟩) rfl
theorem ord_fan {m : Nat} (hm : m ≤ 400) (h0 : 0 < m) : (ordOf (longL false m)).map (·.2) = longN false 0 :: fanRest m := by
 have hs := store_of (store_long false hm)
 unfold ordOf
 rw [belowOf_kids hs Path.root, kids_fan0 hm h0, List.flatMap_cons, List.flatMap_nil, List.append_nil, List.map_cons]
 show longN false 0 :: (belowOf (longL false m) 1 ⟨1, 1⟩).map (·.2) = _
 rw [belowOf_kids hs (path_fan0 h0), kids_fan1 hm]
 congr 1
 have hf : ((fanRest m).flatMap fun x => (1, x) :: belowOf (longL false m) (1 + 1) x.f0) = (fanRest m).flatMap fun x => [(1, x)] := flatMap_same fun x hx => by
  obtain ⟨k, h1, h2, rfl⟩ := mem_fan.1 hx
  rw [belowOf_kids hs (path_fan h1 h2), kids_fan2 hm h1]
  rfl
 rw [hf]
 generalize fanRest m = r
 induction r with
 | nil => rfl
 | cons x r ih => rw [List.flatMap_cons, List.map_append, ih]; rfl
theorem lost_long (ch : Bool) {m : Nat} (hm : m ≤ 400) : lostOf (longL ch m) = [] := by
 have hs := store_of (store_long ch hm)
 unfold lostOf
 have : (longL ch m).filter (fun x => (pathOf (longL ch m) x.f0).isNone) = [] := by
  rw [List.filter_eq_nil_iff]
  intro x hx
  obtain ⟨k, hk, rfl⟩ := mem_longL.1 hx
  cases ch with
  | true => rw [longN_dot true k rfl, pathOf_path hs (path_chain (by omega))]; simp
  | false =>
   by_cases hz : k = 0
   ·
    subst hz; rw [show (longN false 0).f0 = ⟨1, 1⟩ from rfl, pathOf_path hs (path_fan0 (by omega))]; simp
   ·
    rw [pathOf_path hs (path_fan (by omega) hk)]; simp
 rw [this]; rfl
theorem path_longC {m : Nat} (hm : m ≤ 400) (h0 : 0 < m) : ∃ p, pathOf (longL true m) ⟨1, (m : Int)⟩ = some p ∧ p.length = m := by
 have hp := path_chain (m := m) (Nat.le_refl m)
 have he : upL true m = ⟨1, (m : Int)⟩ := by unfold upL; rw [if_neg (by omega), if_pos rfl]
 rw [he] at hp
 exact ⟨_, pathOf_path (store_of (store_long true hm)) hp, by rw [dotsR_length, waysC_length]⟩
theorem path_longF {m : Nat} (hm : m ≤ 400) (h0 : 0 < m) : ∃ p, pathOf (longL false m) ⟨1, (m : Int)⟩ = some p ∧ p.length = min 2 m := by
 have hs := store_of (store_long false hm)
 by_cases h1 : m = 1
 ·
  subst h1
  exact ⟨_, pathOf_path hs (path_fan0 (by omega)), rfl⟩
 ·
  have hp := path_fan (m := m) (k := m - 1) (by omega) (by omega)
  have he : (longN false (m - 1)).f0 = ⟨1, (m : Int)⟩ := by
   show (⟨1, ((m - 1 : Nat) : Int) + 1⟩ : Dot) = _
   rw [show ((m - 1 : Nat) : Int) + 1 = (m : Int) by omega]
  rw [he] at hp
  exact ⟨_, pathOf_path hs hp, by rw [dotsR_length]; simp; omega⟩
end Go.Proofs.YtjlpaagnajmogaaGreat.PWalk
end
section
namespace Go.Proofs.YtjlpaagnajmogaaGreat.PWalk
open Go.RowKit Go.Proofs.YtjlpaagnajmogaaGreatW.PrintWords Go.Proofs.YtjlpaagnajmogaaGreatW.PrintLast Go.Proofs.YtjlpaagnajmogaaGreatW.PrintMore
set_option linter.unusedVariables false
set_option linter.unusedSimpArgs false
open Go.Shelf
attribute [local go_sem] Oper.semAt_some
theorem R_cell {W : World} {base g n c k j : Nat} {xs : List Node} {x : Node} (h : Kd.R k35 35 W base (fun _ => True) (.slice (some ⟨g, 0, none⟩) n c) xs) (hk : xs[k]? = some x) (hj : j < 6) :
  W.cell? ⟨g, k * 6 + j, none⟩ = (nodeCells x)[j]? ∧ W.frozen? ⟨g, k * 6 + j, none⟩ = false := by
 have hn : n = xs.length := (Kd.R_reads' h).1
 subst hn
 have hk2 : k < xs.length := (List.getElem?_eq_some_iff.1 hk).1
 obtain ⟨hl, ho⟩ := cells_of_R h
 rcases ho with ⟨h0, _⟩ | ⟨g', cap', cur, he, hbg, hcur, hle, hmx, hsz, htk⟩
 ·
  cases h0
 ·
  cases he
  refine ⟨?_, blk_frozen hcur _⟩
  have h4 := congrArg (·[j]?) (cellsOf_drop_take xs k _ hk)
  simp only [List.getElem?_take, List.getElem?_drop] at h4
  rw [if_pos (by omega), ← htk, List.getElem?_take, if_pos (by show k * 6 + j < xs.length * 6; omega)] at h4
  rw [← h4]
  exact (blk_cell hcur _).trans (by rw [← Array.getElem?_toList])
end Go.Proofs.YtjlpaagnajmogaaGreat.PWalk
end
section
namespace Go.Proofs.YtjlpaagnajmogaaGreat.PWalk
open Go.RowKit Go.Proofs.YtjlpaagnajmogaaGreatW.PrintWords Go.Proofs.YtjlpaagnajmogaaGreatW.PrintLast Go.Proofs.YtjlpaagnajmogaaGreatW.PrintMore
set_option linter.unusedVariables false
set_option linter.unusedSimpArgs false
open Go.Shelf
attribute [local go_sem] Oper.semAt_some
theorem wrap_i64n {n : Nat} (h : n ≤ 1000000) : IntKind.i64.wrap (n : Int) = (n : Int) := by
 simp only [IntKind.wrap, IntKind.bits, IntKind.signed]
 simp
 omega
/-- A slice of nodes that was laid just now. -/
theorem lit_nodes (W : World) (base : Nat) (hb : base ≤ W.heap.size) (xs : List Node) (n : Nat) (hn : xs.length = n) (hp : 0 < n) (hm : n ≤ 1000000) (cs : Array Value) (hcs : cs.toList = cellsOf xs) :
  Kd.R k35 35 (W.alloc (.cells cs 35 (0, 0))) base (fun _ => True) (.slice (some ⟨W.heap.size, 0, none⟩) n n) xs := by
 subst hn
 have hsz : cs.size = xs.length * 6 := by rw [← Array.length_toList, hcs, cellsOf_length]
 refine R_of_cells ⟨cellsOf_length _, .inr ⟨W.heap.size, xs.length, cs, rfl, hb, blk_new _ _, Nat.le_refl _, (show xs.length ≤ 9223372036854775807 by omega), hsz, ?_⟩⟩ (fun _ _ => trivial)
 rw [← hcs, List.take_of_length_le (by rw [Array.length_toList]; omega)]
/-- A row of the call's own grows by others' nodes. -/
theorem app_more {ops : Array Oper} {Q : Exit → Act → World → Prop} {o : Oper} {rest : List Oper} {a : Act} {W : World} (w : World) (hgd : o.guard = none) (x y : Operand)
  (ho : o.op = .call { callee := .builtin .append, args := #[x, y], argTypes := #[22, 22] }) (v : Value) (xs : List Node) (A : Option Addr) (ys : List Node) (n c : Nat) (hn : ys.length = n) (hx : a.eval x = v) (hy : a.eval y = .slice A n c)
  (hr : Kd.R k35 35 W w.heap.size (fun _ => True) v xs) (hc : Kd.C k35 W A n ys) (hb : Below w.heap.size w W) (hl : xs.length + n ≤ 1000000)
  (h : ∀ v1 w1, Kd.R k35 35 w1 w.heap.size (fun _ => True) v1 (xs ++ ys) → Below w.heap.size w w1 → wpList Tryz.prog ops Q rest (a.put o.dst v1) w1) : wpList Tryz.prog ops Q (o :: rest) a W := by
 subst hn
 refine Kd.R_append_rows k35 (w0 := w) w.heap.size hgd x y 22 35 (.agg #[(.int .i64 0), (.int .i64 0), (.int .i64 0), (.int .i64 0), (.int .i64 0), (.int .i32 0)]) 48 ho Tryz.underlying22 info35 rfl (by decide) (by decide) v xs ys A ys.length c (fun _ => True) (fun _ => False) hx hy hr hc (fun x cs h => (by rw [k35_open h]; exact k35_mkM _ _ _ x)) (fun _ hk => hk.elim) (fun _ _ => trivial) hb hb.size (by omega) ?_
 intro v1 w1 ho hb _ _
 exact h v1 w1 ho hb
theorem lit_nodesC (W : World) (g : Nat) (hg : W.heap.size = g) (xs : List Node) (n : Nat) (hn : xs.length = n) (hp : 0 < n) (hm : n ≤ 1000000) (cs : Array Value) (hcs : cs.toList = cellsOf xs) :
  Kd.C k35 (W.alloc (.cells cs 35 (0, 0))) (some ⟨g, 0, none⟩) n xs := by
 subst hg hn
 exact (Kd.R_reads' (lit_nodes W 0 (Nat.zero_le _) xs _ rfl hp hm cs hcs)).2.2
theorem box_set2 {V : World} {g : Nat} {c0 c1 c2 c3 c4 c5 : Value} (h : V.heap[g]? = some (.cells #[c0, c1, c2, c3, c4, c5] 35 (0, 0))) (a b : Value) :
  V.cell? ⟨g, 2, none⟩ = some c2 ∧ V.frozen? ⟨g, 2, none⟩ = false ∧ (V.setCell ⟨g, 2, none⟩ a).cell? ⟨g, 3, none⟩ = some c3 ∧ (V.setCell ⟨g, 2, none⟩ a).frozen? ⟨g, 3, none⟩ = false ∧ ((V.setCell ⟨g, 2, none⟩ a).setCell ⟨g, 3, none⟩ b).heap[g]? = some (.cells #[c0, c1, a, b, c4, c5] 35 (0, 0)) := by
 have h2 := blk_set h 2 a
 have h3 := blk_set h2 3 b
 exact ⟨(blk_cell h 2).trans rfl, blk_frozen h 2, (blk_cell h2 3).trans rfl, blk_frozen h2 3, h3⟩
theorem box_six {V : World} {g : Nat} {c0 c1 c2 c3 c4 c5 : Value} (h : V.heap[g]? = some (.cells #[c0, c1, c2, c3, c4, c5] 35 (0, 0))) :
  V.cell? ⟨g, 0, none⟩ = some c0 ∧ V.cell? ⟨g, 1, none⟩ = some c1 ∧ V.cell? ⟨g, 2, none⟩ = some c2 ∧ V.cell? ⟨g, 3, none⟩ = some c3 ∧ V.cell? ⟨g, 4, none⟩ = some c4 ∧ V.cell? ⟨g, 5, none⟩ = some c5 :=
 ⟨(blk_cell h 0).trans rfl, (blk_cell h 1).trans rfl, (blk_cell h 2).trans rfl, (blk_cell h 3).trans rfl, (blk_cell h 4).trans rfl, (blk_cell h 5).trans rfl⟩
theorem long_cells (ch : Bool) (k : Nat) (p q : Int) (h : upL ch k = ⟨p, q⟩) : [Value.int .i64 1, .int .i64 ((k : Int) + 1), .int .i64 p, .int .i64 q, .int .i64 ((k : Int) + 1), .int .i32 97] = cellsOf [longN ch k] := by
 show _ = nodeCells (longN ch k) ++ []
 rw [List.append_nil]
 show _ = [Value.int .i64 1, .int .i64 ((k : Int) + 1), .int .i64 (upL ch k).f0, .int .i64 (upL ch k).f1, .int .i64 ((k : Int) + 1), .int .i32 97]
 rw [h]
theorem upL_chain {k : Nat} (h : ¬ k = 0) : upL true k = ⟨1, (k : Int)⟩ := by unfold upL; rw [if_neg h, if_pos rfl]
theorem upL_fan {k : Nat} (h : ¬ k = 0) : upL false k = ⟨1, 1⟩ := by unfold upL; rw [if_neg h, if_neg (by decide)]
theorem lost_nil (ch : Bool) {m : Nat} (hm : m ≤ 400) : redpencillaw11_lost.f 1000 (longL ch m) [] 0 = some true := by
 have hl := longL_length ch m
 unfold redpencillaw11_lost.f walk_Lost.f
 rw [if_pos (by omega), if_pos (store_long ch hm), lost_long ch hm]
 simp only [Option.bind_some]
 rw [refSameD_is [] [] (by simp) 1000 (by simp)]; rfl
theorem ord_at {ch : Bool} {m : Nat} {want : List Node} (hm : m ≤ 400) (h : (ordOf (longL ch m)).map (·.2) = want) : redpencillaw11_ordered.f 1000 (longL ch m) want 0 = some true := by
 have hl := longL_length ch m
 have hs := store_long ch hm
 have hle := ord_le (store_of hs)
 exact ordered_is (by omega) hs h.symm (by omega)
theorem ord_long {m : Nat} (hm : m ≤ 400) : redpencillaw11_ordered.f 1000 (longL true m) (longL true m) 0 = some true := ord_at hm (ord_chain hm)
theorem ord_wide {m : Nat} (hm : m ≤ 400) (h : 0 < m) : redpencillaw11_ordered.f 1000 (longL false m) (longN false 0 :: fanRest m) 0 = some true := ord_at hm (ord_fan hm h)
theorem ord_small {m : Nat} (h : m ≤ 1) : redpencillaw11_ordered.f 1000 (longL false m) (longL false m) 0 = some true := by
 refine ord_at (by omega) ?_
 by_cases h0 : m = 0
 ·
  subst h0
  have hle := ord_le (store_of (store_long false (m := 0) (by omega)))
  rw [longL_length] at hle
  rw [List.eq_nil_of_length_eq_zero (show (ordOf (longL false 0)).length = 0 by omega)]
  rfl
 ·
  obtain rfl : m = 1 := by omega
  rw [ord_fan (by omega) (by omega)]
  rfl
theorem path_long {ch : Bool} {m : Nat} {p : List Dot} (hm : m ≤ 400) (h : pathOf (longL ch m) ⟨1, (m : Int)⟩ = some p) (h0 : 0 < m) : walk_Path.f (longL ch m) 1 (m : Int) = some (p, 0) := by
 have hl := longL_length ch m
 unfold walk_Path.f
 rw [if_pos (by omega), if_pos ⟨store_long ch hm, decide_eq_true ⟨by show (1 : Int) ≤ 1; omega, by show (1 : Int) ≤ 64; omega, by show (1 : Int) ≤ (m : Int); omega, by show (m : Int) ≤ _; omega⟩⟩, h]
theorem long_get {ch : Bool} {m k : Nat} (h : k < m) : (longL ch m)[k]? = some (longN ch k) := by
 unfold longL
 rw [List.getElem?_map, List.getElem?_range h]; rfl
theorem longN_fan {k : Nat} (h : ¬ k = 0) : longN false k = ⟨⟨1, (k : Int) + 1⟩, ⟨1, 1⟩, (k : Int) + 1, 97⟩ := by
 unfold longN
 rw [upL_fan h]
def wantTo (m j : Nat) : List Node := longN false 0 :: ((List.range' (j + 1) (m - 1 - j)).map (longN false)).reverse
theorem wantTo_length {m j : Nat} (h : j < m) : (wantTo m j).length = m - j := by
 unfold wantTo
 rw [List.length_cons, List.length_reverse, List.length_map, List.length_range']; omega
theorem wantTo_last {m : Nat} (h : 1 < m) : wantTo m (m - 1) = [] ++ [longN false 0] := by
 unfold wantTo
 rw [show m - 1 - (m - 1) = 0 by omega]; rfl
theorem wantTo_step {m j : Nat} (h : j + 1 < m) : wantTo m j = wantTo m (j + 1) ++ [longN false (j + 1)] := by
 unfold wantTo
 rw [show m - 1 - j = (m - 1 - (j + 1)) + 1 by omega, List.range'_succ, List.map_cons, List.reverse_cons]
 rfl
theorem fan_cells {W : World} {base g n c j m : Nat} (h : Kd.R k35 35 W base (fun _ => True) (.slice (some ⟨g, 0, none⟩) n c) (longL false m)) (hj : j < m) (h0 : ¬ j = 0) :
  W.cell? ⟨g, j * 6, none⟩ = some (.int .i64 1) ∧ W.cell? ⟨g, j * 6 + 1, none⟩ = some (.int .i64 ((j : Int) + 1)) ∧ W.cell? ⟨g, j * 6 + 2, none⟩ = some (.int .i64 1) ∧ W.cell? ⟨g, j * 6 + 3, none⟩ = some (.int .i64 1) ∧ W.cell? ⟨g, j * 6 + 4, none⟩ = some (.int .i64 ((j : Int) + 1)) ∧ W.cell? ⟨g, j * 6 + 5, none⟩ = some (.int .i32 97) := by
 have hg : (longL false m)[j]? = some ⟨⟨1, (j : Int) + 1⟩, ⟨1, 1⟩, (j : Int) + 1, 97⟩ := by rw [long_get hj, longN_fan h0]
 exact ⟨(R_cell h hg (j := 0) (by decide)).1, (R_cell h hg (j := 1) (by decide)).1, (R_cell h hg (j := 2) (by decide)).1, (R_cell h hg (j := 3) (by decide)).1, (R_cell h hg (j := 4) (by decide)).1, (R_cell h hg (j := 5) (by decide)).1⟩
theorem fan_cells0 {W : World} {base g n c m : Nat} (h : Kd.R k35 35 W base (fun _ => True) (.slice (some ⟨g, 0, none⟩) n c) (longL false m)) (hj : 0 < m) :
  W.cell? ⟨g, 0, none⟩ = some (.int .i64 1) ∧ W.cell? ⟨g, 1, none⟩ = some (.int .i64 1) ∧ W.cell? ⟨g, 2, none⟩ = some (.int .i64 0) ∧ W.cell? ⟨g, 3, none⟩ = some (.int .i64 0) ∧ W.cell? ⟨g, 4, none⟩ = some (.int .i64 1) ∧ W.cell? ⟨g, 5, none⟩ = some (.int .i32 97) := by
 have hg : (longL false m)[0]? = some ⟨⟨1, 1⟩, ⟨0, 0⟩, 1, 97⟩ := by rw [long_get hj]; rfl
 exact ⟨(R_cell h hg (j := 0) (by decide)).1, (R_cell h hg (j := 1) (by decide)).1, (R_cell h hg (j := 2) (by decide)).1, (R_cell h hg (j := 3) (by decide)).1, (R_cell h hg (j := 4) (by decide)).1, (R_cell h hg (j := 5) (by decide)).1⟩
set_option maxHeartbeats 4000000 in
set_option maxRecDepth 100000 in
theorem WalkLongs.walk (many : Int) (hm : (Lit.int .u16 many).wf = true) (ch : Bool) (w : World) :
  Calls Tryz.prog 6 #[.int .u16 many, .bool ch] w fun e w' => e = .returned (.bool true) ∧ Below w.heap.size w w' := by
 have hm2 : 0 ≤ many ∧ many ≤ 65535 := by simpa [Lit.wf, IntKind.min, IntKind.max, IntKind.signed, IntKind.bits] using hm
 clear hm
 by_cases h4 : 400 < many
 ·
  have hb1 : decide (400 < many) = true := decide_eq_true h4
  have hb2 : decide (many > 400) = true := decide_eq_true h4
  clear hm2 h4
  go_enter Tryz.func6, Tryz.ntmps6
  go_wp2_with fail
  refine (known_walk _).mono ?_
  rintro e W3 ⟨rfl, hd⟩
  go_wp2
  go_ret
  exact ⟨rfl, hd⟩
 obtain ⟨n, rfl⟩ : ∃ n : Nat, many = n := ⟨many.toNat, by omega⟩
 have hn : n ≤ 400 := by omega
 have hb1 : decide (400 < (n : Int)) = false := decide_eq_false (by omega)
 have hb2 : decide ((n : Int) > 400) = false := decide_eq_false (by omega)
 have hw0 : IntKind.i64.wrap (n : Int) = (n : Int) := wrap_i64n (by omega)
 clear hm2 h4
 go_enter Tryz.func6, Tryz.ntmps6
 go_wp2
 go_loopw [5, 6] (fun v i wr => ∃ k : Nat, k ≤ n ∧ i = .int .i64 ((k + 1 : Nat) : Int) ∧ Aside0 (Kd.R k35 35 wr w.heap.size (fun _ => True) v (longL ch k)) ∧ Aside0 (Below w.heap.size w wr)) (fun _ i _ => n + 1 - (intOf i).toNat)
 case atStart => exact ⟨0, Nat.zero_le _, rfl, ⟨Kd.R_nil _ _ _ _ _⟩, ⟨Below.refl _ _⟩⟩
 case round =>
  obtain ⟨k, hk, rfl, HO, HB⟩ := hrel
  by_cases hlt : k < n
  ·
   have hle : decide (((k + 1 : Nat) : Int) ≤ (n : Int)) = true := decide_eq_true (by omega)
   have hll : (longL ch k).length = k := longL_length ch k
   go_wp2_with fail
   refine (redpencillaw11_at.calls _ _ _ _ wr rfl).mono ?_
   rintro e w1 ⟨rfl, hb⟩
   have HO := Aside0.mk (Kd.R_below HO.out hb)
   have HB := Aside0.mk (below_more HB.out hb)
   clear hb
   by_cases hz : k = 0
   ·
    subst hz
    have hgt : decide ((1 : Int) > 1) = false := by decide
    have hgt2 : decide ((1 : Int) < 1) = false := by decide
    go_wp2_with (at_builtin; refine app_more w rfl (.tmp 34) (.tmp 36) rfl _ (longL ch 0) _ [longN ch 0] 1 1 rfl rfl rfl (Kd.R_below HO.out (((Below.refl _ w1).alloc (Nat.le_refl _) _).alloc (by simp) _)) (lit_nodesC _ _ (by simp) [longN ch 0] 1 rfl (by decide) (by decide) _ rfl) (below_alloc (below_alloc HB.out _) _) (by omega) ?_; intro v2 w4 ho hb)
    exact ⟨⟨1, by omega, rfl, ⟨by rw [show longL ch 1 = longL ch 0 ++ [longN ch 0] from longL_succ ch 0]; exact ho⟩, ⟨hb⟩⟩, by simp [intOf]; omega⟩
   ·
    have hgt : decide ((k : Int) + 1 > 1) = true := decide_eq_true (by omega)
    have hgt2 : decide (1 < (k : Int) + 1) = true := decide_eq_true (by omega)
    have hgt3 : decide (((k + 1 : Nat) : Int) > 1) = true := decide_eq_true (by omega)
    have hgt4 : decide (1 < ((k + 1 : Nat) : Int)) = true := decide_eq_true (by omega)
    have hi1 : wrap64 (((k + 1 : Nat) : Int) - 1) = (k : Int) := by unfold wrap64; omega
    go_wp2_with fail
    refine (redpencillaw11_at.calls _ _ _ _ _ rfl).mono ?_
    rintro e w2 ⟨rfl, hb⟩
    have HX := Aside0.mk (blk_keep (blk_new w1 _) hb)
    have HW := Aside0.mk (below_more (below_alloc (Below.refl _ w1) _) hb)
    clear hb
    obtain ⟨x2, y2, x3, y3, hz1⟩ := box_set2 HX.out (.int .i64 1) (.int .i64 1)
    have HW := Aside0.mk (below_setCell (below_setCell HW.out (Nat.le_refl _) 2 (.int .i64 1)) (Nat.le_refl _) 3 (.int .i64 1))
    have HZ1 := Aside0.mk hz1
    cases ch with
    | false =>
     obtain ⟨z0, z1, z2, z3, z4, z5⟩ := box_six hz1
     clear hz1
     go_wp2_with (first | (at_builtin; refine app_more w rfl (.tmp 34) (.tmp 36) rfl _ (longL false k) _ [longN false k] 1 1 rfl rfl rfl (Kd.R_below HO.out (below_alloc HW.out _)) (lit_nodesC _ _ (by simp) [longN false k] 1 rfl (by decide) (by decide) _ (long_cells false k _ _ (upL_fan hz))) (below_alloc (below_more HB.out HW.out) _) (by omega) ?_; intro v2 w4 ho hb) | simp only [Result.andThen_ok, x2, x3, y2, y3, Bool.false_eq_true, if_false])
     exact ⟨⟨k + 1, by omega, by go_num, ⟨by rw [longL_succ false k]; exact ho⟩, ⟨hb⟩⟩, by simp [intOf]; omega⟩
    | true =>
     clear hz1
     go_wp2_with (simp only [Result.andThen_ok, x2, x3, y2, y3, Bool.false_eq_true, if_false])
     refine (redpencillaw11_at.calls _ _ _ _ _ rfl).mono ?_
     rintro e w3 ⟨rfl, hb⟩
     have HX3 := Aside0.mk (blk_keep HZ1.out hb)
     have HW := Aside0.mk (below_more HW.out hb)
     clear hb x2 y2 x3 y3 HZ1
     obtain ⟨x2, y2, x3, y3, hz1⟩ := box_set2 HX3.out (.int .i64 1) (.int .i64 (k : Int))
     have HW := Aside0.mk (below_setCell (below_setCell HW.out (Nat.le_refl _) 2 (.int .i64 1)) (Nat.le_refl _) 3 (.int .i64 (k : Int)))
     obtain ⟨z0, z1, z2, z3, z4, z5⟩ := box_six hz1
     clear hz1
     go_wp2_with (first | (at_builtin; refine app_more w rfl (.tmp 34) (.tmp 36) rfl _ (longL true k) _ [longN true k] 1 1 rfl rfl rfl (Kd.R_below HO.out (below_alloc HW.out _)) (lit_nodesC _ _ (by simp) [longN true k] 1 rfl (by decide) (by decide) _ (long_cells true k _ _ (upL_chain hz))) (below_alloc (below_more HB.out HW.out) _) (by omega) ?_; intro v2 w4 ho hb) | simp only [Result.andThen_ok, x2, x3, y2, y3, Bool.false_eq_true, if_false])
     exact ⟨⟨k + 1, by omega, by go_num, ⟨by rw [longL_succ true k]; exact ho⟩, ⟨hb⟩⟩, by simp [intOf]; omega⟩
  ·
   obtain rfl : k = n := by omega
   have hle : decide (((k + 1 : Nat) : Int) ≤ (k : Int)) = false := decide_eq_false (by omega)
   obtain ⟨A, c, hv, hcc, hC⟩ := Kd.R_reads HO.out
   have hll : (longL ch k).length = k := longL_length ch k
   have HLL := Aside0.mk hll
   rw [hll] at hv hcc
   subst hv
   have HC := Aside0.mk hC
   have HCC := Aside0.mk hcc
   clear hcc hC hll hlt
   by_cases hf : ch = false ∧ 1 < k
   ·
    obtain ⟨rfl, h1⟩ := hf
    obtain ⟨g, cap, hA, hgw, _⟩ := Kd.R_form HO.out (by rw [HLL.out]; omega)
    rw [HLL.out] at hA
    cases hA
    clear hgw
    have hk1 : decide ((k : Int) > 1) = true := decide_eq_true (by omega)
    have hk2 : decide (1 < (k : Int)) = true := decide_eq_true (by omega)
    have hi1 : wrap64 ((k : Int) - 1) = ((k - 1 : Nat) : Int) := by unfold wrap64; omega
    have h0k : 0 < k := by omega
    obtain ⟨y0, y1, y2, y3, y4, y5⟩ := fan_cells0 HO.out h0k
    go_wp2_with (at_builtin; refine app_more wr rfl (.const (.slice none 0 0)) (.tmp 49) rfl _ [] _ [longN false 0] 1 1 rfl rfl rfl (Kd.R_nil _ _ _ _ _) (lit_nodesC _ _ rfl [longN false 0] 1 rfl (by decide) (by decide) _ rfl) (below_alloc (Below.refl _ wr) _) (by decide) ?_; intro v2 w4 ho hb)
    have HO4 := Aside0.mk ho
    have HB4 := Aside0.mk hb
    clear ho hb y0 y1 y2 y3 y4 y5
    obtain ⟨W0, rfl⟩ : ∃ W0, W0 = wr := ⟨_, rfl⟩
    go_loopw [8, 9] (fun v i wq => ∃ j : Nat, j < k ∧ i = .int .i64 (j : Int) ∧ Aside0 (Kd.R k35 35 wq W0.heap.size (fun _ => True) v (wantTo k j)) ∧ Aside0 (Below W0.heap.size W0 wq)) (fun _ i _ => (intOf i).toNat)
    case atStart => exact ⟨k - 1, by omega, congrArg (Value.int .i64) (by omega), ⟨by rw [wantTo_last h1]; exact HO4.out⟩, HB4⟩
    case round =>
     obtain ⟨j, hjk, rfl, HO5, HB5⟩ := hrel
     clear HO4 HB4
     by_cases hj0 : j = 0
     ·
      subst hj0
      obtain ⟨A2, c2, hv2⟩ := RN.slice HO5.out
      rw [wantTo_length hjk, Nat.sub_zero] at hv2
      subst hv2
      have HC2 := Aside0.mk (Kd.R_reads' HO5.out).2.2
      have HCC2 : Aside0 (k ≤ c2) := ⟨(RN.C HO5.out).2.1⟩
      have hb := HB5.out
      have HC := Aside0.mk (Kd.C_below HC.out hb)
      have HB := Aside0.mk (below_more HB.out hb)
      clear hb
      go_wp2_with fail
      have hcall := redpencillaw11_ordered.calls 1000 (some ⟨g, 0, none⟩) c (longL false k) A2 c2 (wantTo k 0) 0 true _ HC.out (by rw [HLL.out]; exact HCC.out) HC2.out (by rw [wantTo_length hjk]; exact HCC2.out) (ord_wide hn h0k)
      rw [HLL.out, wantTo_length hjk, Nat.sub_zero] at hcall
      refine hcall.mono ?_
      clear hcall
      rintro e V1 ⟨rfl, hb⟩
      have HC := Aside0.mk (Kd.C_below HC.out hb)
      have HB := Aside0.mk (below_more HB.out hb)
      clear hb
      go_wp2_with fail
      have hcall := redpencillaw11_lost.calls 1000 (some ⟨g, 0, none⟩) c (longL false k) none 0 [] 0 true V1 HC.out (by rw [HLL.out]; exact HCC.out) nilD (Nat.le_refl _) (lost_nil false hn)
      rw [HLL.out] at hcall
      refine hcall.mono ?_
      clear hcall
      rintro e V2 ⟨rfl, hb⟩
      have HC := Aside0.mk (Kd.C_below HC.out hb)
      have HB := Aside0.mk (below_more HB.out hb)
      clear hb
      have hk0 : ((k : Int) == 0) = false := beq_eq_false_iff_ne.2 (by omega)
      have hk5 : ((k : Int) = 0) = False := eq_false (by omega)
      go_wp2_with fail
      refine (redpencillaw11_at.calls _ _ _ _ _ rfl).mono ?_
      rintro e V3 ⟨rfl, hb⟩
      have HC := Aside0.mk (Kd.C_below HC.out hb)
      have HB := Aside0.mk (below_more HB.out hb)
      clear hb
      obtain ⟨p, hp, hpl⟩ := path_longF hn (by omega : 0 < k)
      have HPL := Aside0.mk hpl
      clear hpl
      go_wp2_with fail
      have hcall := walk_Path.calls (some ⟨g, 0, none⟩) c (longL false k) 1 (k : Int) p 0 V3 HC.out (by rw [HLL.out]; exact HCC.out) (path_long hn hp (by omega : 0 < k))
      rw [HLL.out] at hcall
      refine hcall.mono ?_
      clear hcall hp
      rintro e V4 ⟨u, rfl, hr, hb⟩
      obtain ⟨Ap, cp, rfl⟩ := RD.slice hr
      rw [HPL.out]
      clear hr
      have HC := Aside0.mk (Kd.C_below HC.out hb)
      have HB := Aside0.mk (below_more HB.out hb)
      clear hb
      have hmin : (min 2 k : Nat) = (min 2 (k : Int)) := by omega
      go_wp2_with fail
      refine (known_walk _).mono ?_
      rintro e V5 ⟨rfl, hb⟩
      have HC := Aside0.mk (Kd.C_below HC.out hb)
      have HB := Aside0.mk (below_more HB.out hb)
      clear hb
      go_wp2
      go_ret
      exact ⟨rfl, HB.out⟩
     ·
      obtain ⟨i, rfl⟩ : ∃ i, j = i + 1 := ⟨j - 1, by omega⟩
      have hgt : decide ((((i + 1 : Nat) : Int)) > 0) = true := decide_eq_true (by omega)
      have hgt2 : decide ((0 : Int) < ((i + 1 : Nat) : Int)) = true := decide_eq_true (by omega)
      have hi2 : wrap64 (((i + 1 : Nat) : Int) - 1) = (i : Int) := by unfold wrap64; omega
      have HR5 := Aside0.mk (Kd.R_below HO.out HB5.out)
      obtain ⟨y0, y1, y2, y3, y4, y5⟩ := fan_cells HR5.out hjk (by omega)
      have hlw : (wantTo k (i + 1)).length = k - (i + 1) := wantTo_length hjk
      have hli : (longN false (i + 1) : Node) = ⟨⟨1, ((i + 1 : Nat) : Int) + 1⟩, ⟨1, 1⟩, ((i + 1 : Nat) : Int) + 1, 97⟩ := longN_fan (by omega)
      have HLI := Aside0.mk hli
      clear hli
      go_wp2_with (at_builtin; refine app_more W0 rfl (.tmp 58) (.tmp 63) rfl _ (wantTo k (i + 1)) _ [longN false (i + 1)] 1 1 rfl rfl rfl (Kd.R_below HO5.out ((Below.refl _ wr).alloc (Nat.le_refl _) _)) (lit_nodesC _ _ rfl [longN false (i + 1)] 1 rfl (by decide) (by decide) _ (by rw [HLI.out]; simp [cellsOf, nodeCells])) (below_alloc HB5.out _) (by omega) ?_; intro v2 w4 ho hb)
      exact ⟨⟨i, by omega, by go_num, ⟨by rw [wantTo_step hjk]; exact ho⟩, ⟨hb⟩⟩, by simp [intOf]⟩
   ·
    cases ch with
    | true =>
     go_wp2_with fail
     have hcall := redpencillaw11_ordered.calls 1000 A c (longL true k) A c (longL true k) 0 true wr HC.out (by rw [HLL.out]; exact HCC.out) HC.out (by rw [HLL.out]; exact HCC.out) (ord_long hn)
     rw [HLL.out] at hcall
     refine hcall.mono ?_
     clear hcall
     rintro e V1 ⟨rfl, hb⟩
     have HC := Aside0.mk (Kd.C_below HC.out hb)
     have HB := Aside0.mk (below_more HB.out hb)
     clear hb
     go_wp2_with fail
     have hcall := redpencillaw11_lost.calls 1000 A c (longL true k) none 0 [] 0 true V1 HC.out (by rw [HLL.out]; exact HCC.out) nilD (Nat.le_refl _) (lost_nil true hn)
     rw [HLL.out] at hcall
     refine hcall.mono ?_
     clear hcall
     rintro e V2 ⟨rfl, hb⟩
     have HC := Aside0.mk (Kd.C_below HC.out hb)
     have HB := Aside0.mk (below_more HB.out hb)
     clear hb
     by_cases hz : k = 0
     ·
      skip
      subst hz
      go_wp2_with fail
      refine (known_walk _).mono ?_
      rintro e V5 ⟨rfl, hb⟩
      have HB := Aside0.mk (below_more HB.out hb)
      go_wp2
      go_ret
      exact ⟨rfl, HB.out⟩
     ·
      skip
      have hk0 : ((k : Int) == 0) = false := beq_eq_false_iff_ne.2 (by omega)
      have hk5 : ((k : Int) = 0) = False := eq_false (by omega)
      go_wp2_with fail
      refine (redpencillaw11_at.calls _ _ _ _ _ rfl).mono ?_
      rintro e V3 ⟨rfl, hb⟩
      have HC := Aside0.mk (Kd.C_below HC.out hb)
      have HB := Aside0.mk (below_more HB.out hb)
      clear hb
      obtain ⟨p, hp, hpl⟩ := path_longC hn (by omega : 0 < k)
      have HPL := Aside0.mk hpl
      clear hpl
      go_wp2_with fail
      have hcall := walk_Path.calls A c (longL true k) 1 (k : Int) p 0 V3 HC.out (by rw [HLL.out]; exact HCC.out) (path_long hn hp (by omega : 0 < k))
      rw [HLL.out] at hcall
      refine hcall.mono ?_
      clear hcall hp
      rintro e V4 ⟨u, rfl, hr, hb⟩
      obtain ⟨Ap, cp, rfl⟩ := RD.slice hr
      rw [HPL.out]
      clear hr
      have HC := Aside0.mk (Kd.C_below HC.out hb)
      have HB := Aside0.mk (below_more HB.out hb)
      clear hb
      go_wp2_with fail
      refine (known_walk _).mono ?_
      rintro e V5 ⟨rfl, hb⟩
      have HC := Aside0.mk (Kd.C_below HC.out hb)
      have HB := Aside0.mk (below_more HB.out hb)
      clear hb
      go_wp2
      go_ret
      exact ⟨rfl, HB.out⟩
    | false =>
     have hk1 : decide ((k : Int) > 1) = false := decide_eq_false (by simp at hf; omega)
     have hk2 : decide (1 < (k : Int)) = false := decide_eq_false (by simp at hf; omega)
     have hk3 : k ≤ 1 := by simp at hf; omega
     go_wp2_with fail
     have hcall := redpencillaw11_ordered.calls 1000 A c (longL false k) A c (longL false k) 0 true wr HC.out (by rw [HLL.out]; exact HCC.out) HC.out (by rw [HLL.out]; exact HCC.out) (ord_small hk3)
     rw [HLL.out] at hcall
     refine hcall.mono ?_
     clear hcall
     rintro e V1 ⟨rfl, hb⟩
     have HC := Aside0.mk (Kd.C_below HC.out hb)
     have HB := Aside0.mk (below_more HB.out hb)
     clear hb
     go_wp2_with fail
     have hcall := redpencillaw11_lost.calls 1000 A c (longL false k) none 0 [] 0 true V1 HC.out (by rw [HLL.out]; exact HCC.out) nilD (Nat.le_refl _) (lost_nil false hn)
     rw [HLL.out] at hcall
     refine hcall.mono ?_
     clear hcall
     rintro e V2 ⟨rfl, hb⟩
     have HC := Aside0.mk (Kd.C_below HC.out hb)
     have HB := Aside0.mk (below_more HB.out hb)
     clear hb
     by_cases hz : k = 0
     ·
      skip
      subst hz
      go_wp2_with fail
      refine (known_walk _).mono ?_
      rintro e V5 ⟨rfl, hb⟩
      have HB := Aside0.mk (below_more HB.out hb)
      go_wp2
      go_ret
      exact ⟨rfl, HB.out⟩
     ·
      skip
      have hk0 : ((k : Int) == 0) = false := beq_eq_false_iff_ne.2 (by omega)
      have hk5 : ((k : Int) = 0) = False := eq_false (by omega)
      go_wp2_with fail
      refine (redpencillaw11_at.calls _ _ _ _ _ rfl).mono ?_
      rintro e V3 ⟨rfl, hb⟩
      have HC := Aside0.mk (Kd.C_below HC.out hb)
      have HB := Aside0.mk (below_more HB.out hb)
      clear hb
      obtain ⟨p, hp, hpl⟩ := path_longF hn (by omega : 0 < k)
      have HPL := Aside0.mk hpl
      clear hpl
      go_wp2_with fail
      have hcall := walk_Path.calls A c (longL false k) 1 (k : Int) p 0 V3 HC.out (by rw [HLL.out]; exact HCC.out) (path_long hn hp (by omega : 0 < k))
      rw [HLL.out] at hcall
      refine hcall.mono ?_
      clear hcall hp
      rintro e V4 ⟨u, rfl, hr, hb⟩
      obtain ⟨Ap, cp, rfl⟩ := RD.slice hr
      rw [HPL.out]
      clear hr
      have HC := Aside0.mk (Kd.C_below HC.out hb)
      have HB := Aside0.mk (below_more HB.out hb)
      clear hb
      have hmin : (min 2 k : Nat) = (min 2 (k : Int)) := by omega
      go_wp2_with fail
      refine (known_walk _).mono ?_
      rintro e V5 ⟨rfl, hb⟩
      have HC := Aside0.mk (Kd.C_below HC.out hb)
      have HB := Aside0.mk (below_more HB.out hb)
      clear hb
      go_wp2
      go_ret
      exact ⟨rfl, HB.out⟩
end Go.Proofs.YtjlpaagnajmogaaGreat.PWalk
end
section
namespace Go.Proofs.YtjlpaagnajmogaaGreat.walkLongs
open Go.ChangeShapes Go.WideShapes Go.ChangeAt Go.RowKit
open Go.ChangeMaps (open_string shut_string)
open Go.Proofs.YtjlpaagnajmogaaGreatW.PrintWords
set_option linter.unusedVariables false
theorem own : ownKnob Tryz.prog.godebug = none := by kernel_rfl
set_option maxRecDepth 100000 in
set_option maxHeartbeats 2000000 in
theorem lifted (os : Os) (started : os.Started) (H : Type) (enc : TypeId × Value → H) :
  ReturnsInHanded {} Tryz.checked os 6 .any (Rows.walkLongsSpec.pre6 enc Tryz.prog Tryz.f6 Rows.walkLongsRow.domain false) (Rows.walkLongsSpec.post enc Tryz.prog Tryz.f6 false true false false) := by
 refine returnsInHanded_of_change_sized (C := Tryz.checked) own started (by kernel_rfl) Tryz.func6
  (ChangeSpec.witness6 (enc := enc) (C := Tryz.checked) false ⟨#[], #[.int .u16 0, .bool false], []⟩ 8 (by kernel_rfl) (by kernel_rfl) (by kernel_rfl) (by kernel_rfl)) ?_
 intro W base args ds gs before hval0 hW hcnd hsz0 _
 have hval : ∀ (j : Nat) t v, Tryz.f6.params[j]? = some t → args[j]? = some v → Value.okWide Tryz.prog W .any base t v := hval0
 have hW' := hW
 obtain ⟨p, q, hA0, hV, rfl, hfz, hnd⟩ := hW
 have hA : DataW.TrodAll enc Tryz.prog W 0 (fun _ => true) true Tryz.f6.params.toList args.toList ds p := hA0
 rw [Tryz.params6] at hA hval
 obtain ⟨v0, vs0, d0, ds0, p0, q0, hargs, rfl, rfl, h0, r0⟩ := trodAll_cons hA
 obtain ⟨v1, vs1, d1, ds1, p1, q1, rfl, rfl, rfl, h1, r1⟩ := trodAll_cons r0
 obtain ⟨rfl, rfl, rfl⟩ := trodAll_nil r1
 obtain rfl : args = #[v0, v1] := by cases args; simp_all
 obtain ⟨rfl, rfl⟩ := trodVars_none hV
 obtain ⟨a0, rfl, rfl, rfl, w0⟩ := open_int Tryz.underlying48 (hval 0 48 v0 rfl rfl) h0
 obtain ⟨a1, rfl, rfl, rfl⟩ := open_bool Tryz.underlying4 (hval 1 4 v1 rfl rfl) h1
 clear hA0 hval0 hsz0
 refine (PWalk.WalkLongs.walk a0 w0 a1 W).mono fun e W' ⟨he, bel⟩ => ?_
 subst he
 exact ⟨_, rfl, _, _, _, [], _, [], hW', trodAll_mk1 (shut_bool Tryz.underlying4 _), (trodAll_cons_mk (shut_int Tryz.underlying48 w0) (trodAll_cons_mk (shut_bool Tryz.underlying4 _) trodAll_mk0)), rfl, bel.frame _, fun h => by cases h⟩
theorem over : Rows.walkLongsRow.holds Tryz.pinned (OpenSpec.ofChange Rows.walkLongsSpec) :=
 OpenClaim.holds_of_wide 6 Tryz.f6 rfl rfl rfl rfl rfl rfl rfl ⟨rfl, rfl, rfl, rfl, rfl⟩ rfl rfl rfl rfl rfl (by kernel_rfl) Tryz.func6 (by kernel_rfl)
  (of_decide_eq_true (by kernel_rfl)) (by unfold Func.isWrapper; first | (rw [if_pos (by decide +kernel)]; kernel_rfl) | (rw [if_neg (by decide +kernel)]; exact ⟨rfl, rfl⟩))
  (fun os started H enc _ => lifted os started H enc)
theorem proved : Rows.WalkLongsSaid := over
#print axioms proved
end Go.Proofs.YtjlpaagnajmogaaGreat.walkLongs
end
