/-
  The law EditInserts of layer 15 holds for all states, dots, indices and runes. Part 12 of 12.
-/
import Derived.Test.YtmbndijbpgobeaaGreatNK
import Derived.Test.YtmbndijbpgobeaaGreatRows
import Derived.WalkKit
import Derived.ProofKit
import Derived.OpenShut
import Derived.ShutString
import Derived.ChangeOld
import Derived.Below
import Derived.SizedLaws
import Derived.Deep.DeepHandedRow
import Derived.Deep.Slices
import Derived.Lib.SmallJoins
section
namespace Go.Proofs.YtmbndijbpgobeaaGreat.editInserts
open Go.ChangeShapes Go.WideShapes Go.ChangeAt Go.RowKit
open Go.ChangeMaps (open_string shut_string)
open Go.Proofs.YtmbndijbpgobeaaGreatW.PrintWords
set_option linter.unusedVariables false
theorem six_of {α : Type} {cs : List α} (h : cs.length = 6) : ∃ c0 c1 c2 c3 c4 c5, cs = [c0, c1, c2, c3, c4, c5] := by
 match cs, h with
 | [a, b, c, d, e, f], _ => exact ⟨a, b, c, d, e, f, rfl⟩
theorem open_node {H : Type} {enc : TypeId × Value → H} {W : World} {base : Nat} {sp : Nat → Bool} {held : Bool} {fuel : Nat} {cs : List Value} {x : DataW H × List MemPlace} (h : DataW.trod enc Tryz.prog W base sp held fuel 53 cs = some x) :
  ∃ n : PWalk.Node, cs = PWalk.nodeCells n ∧ PWalk.runeIn n.f3 := by
 have e37 : Tryz.prog.cellsOf 53 = 6 := by kernel_rfl
 have e35 : Tryz.prog.cellsOf 25 = 2 := by kernel_rfl
 have e3 : Tryz.prog.cellsOf 3 = 1 := by kernel_rfl
 have e21 : Tryz.prog.cellsOf 21 = 1 := by kernel_rfl
 obtain ⟨y0, y1, y2, y3, n, rfl, hl, h0, h1, h2, h3⟩ := Go.Joins.trod_struct4 Tryz.underlying53 h
 rw [e37] at hl
 obtain ⟨c0, c1, c2, c3, c4, c5, rfl⟩ := six_of hl
 simp only [e35, e3, e21, List.drop_zero, List.drop_succ_cons, List.take_succ_cons, List.take_zero] at h0 h1 h2 h3
 obtain ⟨_, _, _, _, _, g0, g1⟩ := trod_struct2 Tryz.underlying25 h0
 obtain ⟨_, _, _, _, _, g2, g3⟩ := trod_struct2 Tryz.underlying25 h1
 simp only [e3, List.drop_zero, List.drop_succ_cons, List.take_succ_cons, List.take_zero] at g0 g1 g2 g3
 obtain ⟨k0, i0, _, _⟩ := DataW.trod_int Tryz.underlying3 g0
 obtain ⟨k1, i1, _, _⟩ := DataW.trod_int Tryz.underlying3 g1
 obtain ⟨k2, i2, _, _⟩ := DataW.trod_int Tryz.underlying3 g2
 obtain ⟨k3, i3, _, _⟩ := DataW.trod_int Tryz.underlying3 g3
 obtain ⟨k4, i4, _, _⟩ := DataW.trod_int Tryz.underlying3 h2
 obtain ⟨k5, i5, _, hw⟩ := DataW.trod_int Tryz.underlying21 h3
 simp only [List.cons.injEq, and_true] at i0 i1 i2 i3 i4 i5
 subst i0 i1 i2 i3 i4 i5
 refine ⟨⟨⟨k0, k1⟩, ⟨k2, k3⟩, k4, k5⟩, rfl, ?_⟩
 have hw2 : -2147483648 ≤ k5 ∧ k5 ≤ 2147483647 := by simpa [Lit.wf, IntKind.min, IntKind.max, IntKind.signed, IntKind.bits] using hw
 exact ⟨by show _ ≤ k5; omega, by show k5 ≤ _; omega⟩
/-- A []api.Node that came in, nil or not. -/
theorem open_nodes {H : Type} {enc : TypeId × Value → H} {W : World} {A : Option Addr} {len cap : Nat} {x : DataW H × List MemPlace} {fuel : Nat} (h : DataW.trod enc Tryz.prog W 0 (fun _ => true) true fuel 23 [.slice A len cap] = some x) :
  ∃ xs : List PWalk.Node, xs.length = len ∧ Kd.C PWalk.k53 W A len xs ∧ len ≤ cap ∧ ∀ n ∈ xs, PWalk.runeIn n.f3 := by
 have e37 : Tryz.prog.cellsOf 53 = 6 := by kernel_rfl
 rcases Go.Deep.open_slice Tryz.underlying23 h with ⟨hcs, _⟩ | ⟨a, len', cap', m, n, D, Pl, hcs, _, hl, hm, hmm, _, hx⟩
 ·
  simp at hcs
  obtain ⟨rfl, rfl, rfl⟩ := hcs
  exact ⟨[], rfl, ⟨rfl, by omega, fun hp => absurd hp (by omega)⟩, Nat.le_refl _, fun n hn => by cases hn⟩
 ·
  simp at hcs
  obtain ⟨rfl, rfl, rfl⟩ := hcs
  simp only [if_true] at hmm
  subst hmm
  rw [e37] at hx
  haveI : Inhabited PWalk.Node := ⟨⟨⟨0, 0⟩, ⟨0, 0⟩, 0, 0⟩⟩
  obtain ⟨N, hN⟩ := Go.Deep.choose_lt (α := PWalk.Node) (n := len) (p := fun i nd => PWalk.runeIn nd.f3 ∧ ∀ j u, (PWalk.nodeCells nd)[j]? = some u → W.cell? (a.add (i * 6 + j)) = some u) (fun i hi => by
   obtain ⟨cs', h1, h2⟩ := hx i (by omega)
   obtain ⟨nd, rfl, hr⟩ := open_node h2
   refine ⟨nd, hr, fun j u hu => ?_⟩
   obtain ⟨_, hlen, hc⟩ := World.cells?_some h1
   have hj : j < 6 := (List.getElem?_eq_some_iff.1 hu).1
   rw [← Addr.add_add a (i * 6) j]
   rw [← hu]
   exact hc j (by simpa using hj))
  refine ⟨(List.range len).map N, by simp, ⟨by simp, Nat.le_trans hl hm, fun hp => ⟨a, rfl, fun i nd hi => ?_⟩⟩, hl, fun nd hnd => ?_⟩
  ·
   have hil : i < len := by simpa using (List.getElem?_eq_some_iff.1 hi).1
   have hnd : nd = N i := by simpa [hil] using hi.symm
   subst hnd
   refine ⟨PWalk.nodeCells (N i), rfl, PWalk.k53.K_of_M (PWalk.k53_mkM W 0 (fun _ => True) (N i)), fun j u hu => (hN i hil).2 j u hu⟩
  ·
   obtain ⟨i, hi, rfl⟩ := List.mem_map.1 hnd
   exact (hN i (by simpa using hi)).1
set_option maxRecDepth 100000 in
/-- An api.Dot that came in by value: it is read the same in every world. -/
theorem open_dot {H : Type} {enc : TypeId × Value → H} {W : World} {r : Reach} {b0 base : Nat} {sp : Nat → Bool} {held : Bool} {v : Value} {d : DataW H} {p : List MemPlace} (hv : Value.okWide Tryz.prog W r b0 25 v) (h : DataW.Trod enc Tryz.prog W base sp held 25 v d p) :
  ∃ a : PWalk.Dot, v = .agg #[.int .i64 a.f0, .int .i64 a.f1] ∧ ∀ (W' : World) (base' : Nat) (sp' : Nat → Bool) (held' : Bool), DataW.Trod enc Tryz.prog W' base' sp' held' 25 v d p := by
 obtain ⟨v0, v1, y0, y1, n, rfl, rfl, rfl, h0, h1⟩ := Go.Joins.open_agg2 Tryz.underlying25 (by kernel_rfl) (by kernel_rfl) hv h
 obtain ⟨k0, i0, e0, w0⟩ := DataW.trod_int Tryz.underlying3 h0
 obtain ⟨k1, i1, e1, w1⟩ := DataW.trod_int Tryz.underlying3 h1
 simp only [List.cons.injEq, and_true] at i0 i1
 subst i0 i1 e0 e1
 refine ⟨⟨k0, k1⟩, rfl, fun W' base' sp' held' => ?_⟩
 exact Go.Joins.shut_agg2 Tryz.underlying25 (by kernel_rfl) (by kernel_rfl) (Go.Joins.field_of_Trod (shut_int Tryz.underlying3 w0) rfl) (Go.Joins.field_of_Trod (shut_int Tryz.underlying3 w1) rfl)
/-- A []rune that came in, nil or not. -/
theorem open_runes {H : Type} {enc : TypeId × Value → H} {W : World} {A : Option Addr} {len cap : Nat} {x : DataW H × List MemPlace} {fuel : Nat} (h : DataW.trod enc Tryz.prog W 0 (fun _ => true) true fuel 26 [.slice A len cap] = some x) :
  ∃ xs : List Int, xs.length = len ∧ Kd.C (Kd.int .i32) W A len xs ∧ len ≤ cap := by
 rcases Go.ChangeShapes.open_ints Tryz.underlying26 Tryz.underlying21 (by kernel_rfl) h with ⟨hcs, _⟩ | ⟨a, len', cap', zs, hcs, _, hl, hm, hz, _, hc, _⟩
 ·
  simp at hcs
  obtain ⟨rfl, rfl, rfl⟩ := hcs
  exact ⟨[], rfl, ⟨rfl, by omega, fun hp => absurd hp (by omega)⟩, Nat.le_refl _⟩
 ·
  simp at hcs
  obtain ⟨rfl, rfl, rfl⟩ := hcs
  simp only [if_true] at hz
  refine ⟨zs.take len, by rw [List.length_take]; omega, ⟨by rw [List.length_take]; omega, Nat.le_trans hl hm, fun hp => ⟨a, rfl, fun i r hi => ⟨[.int .i32 r], rfl, rfl, fun j u hu => ?_⟩⟩⟩, hl⟩
  have hj : j = 0 := by
   cases j with
   | zero => rfl
   | succ j => simp at hu
  subst hj
  simp at hu
  subst hu
  have hil : i < len := by
   have := (List.getElem?_eq_some_iff.1 hi).1
   rw [List.length_take] at this
   omega
  rw [List.getElem?_take_of_lt hil] at hi
  have hiz : i < zs.length := by omega
  have e : zs.getD i 0 = r := by rw [List.getD_eq_getElem?_getD, hi]; rfl
  rw [show a.add (i * (Kd.int .i32).sz + 0) = a.add i by simp [Kd.int, Kd.scalar], hc i hiz, e]
theorem own : ownKnob Tryz.prog.godebug = none := by kernel_rfl
theorem laidOut : laidOutB Tryz.prog = true := by kernel_rfl
set_option maxRecDepth 100000 in
set_option maxHeartbeats 2000000 in
theorem lifted (os : Os) (started : os.Started) (H : Type) (enc : TypeId × Value → H) :
  ReturnsInHanded {} Tryz.checked os 3 .any (Rows.editInsertsSpec.pre6 enc Tryz.prog Tryz.f3 Rows.editInsertsRow.domain false) (Rows.editInsertsSpec.post enc Tryz.prog Tryz.f3 false true false false) := by
 refine returnsInHanded_of_change_sized (C := Tryz.checked) own started (by kernel_rfl) Tryz.func3
  (ChangeSpec.witness6 (enc := enc) (C := Tryz.checked) false ⟨#[], #[.slice none 0 0, .agg #[.int .i64 0, .int .i64 0], .int .i64 0, .slice none 0 0], []⟩ 8 (by kernel_rfl) (by kernel_rfl) (by kernel_rfl) (by kernel_rfl)) ?_
 intro W base args ds gs before hval0 hW hcnd hsz0 _
 have hval : ∀ (j : Nat) t v, Tryz.f3.params[j]? = some t → args[j]? = some v → Value.okWide Tryz.prog W .any base t v := hval0
 have hW' := hW
 obtain ⟨p, q, hA0, hV, rfl, hfz, hnd⟩ := hW
 have hA : DataW.TrodAll enc Tryz.prog W 0 (fun _ => true) true Tryz.f3.params.toList args.toList ds p := hA0
 rw [Tryz.params3] at hA hval
 obtain ⟨v0, vs0, d0, ds0, p0, q0, hargs, rfl, rfl, h0, r0⟩ := trodAll_cons hA
 obtain ⟨v1, vs1, d1, ds1, p1, q1, rfl, rfl, rfl, h1, r1⟩ := trodAll_cons r0
 obtain ⟨v2, vs2, d2, ds2, p2, q2, rfl, rfl, rfl, h2, r2⟩ := trodAll_cons r1
 obtain ⟨v3, vs3, d3, ds3, p3, q3, rfl, rfl, rfl, h3, r3⟩ := trodAll_cons r2
 obtain ⟨rfl, rfl, rfl⟩ := trodAll_nil r3
 obtain rfl : args = #[v0, v1, v2, v3] := by cases args; simp_all
 obtain ⟨rfl, rfl⟩ := trodVars_none hV
 obtain ⟨A0, len0, cap0, rfl⟩ := okWide_slice Tryz.underlying23 (hval 0 23 v0 rfl rfl)
 have k0 := h0
 have lt0 : ∀ x ∈ p0, x.block < W.heap.size := by obtain ⟨m, hm⟩ := k0; exact DataW.trod_lt m _ _ _ hm
 obtain ⟨f0, hf0⟩ := h0
 obtain ⟨xs0, rfl, hr0, hc0, hi0⟩ := open_nodes hf0
 obtain ⟨a1, rfl, w1⟩ := open_dot (hval 1 25 v1 rfl rfl) h1
 obtain ⟨a2, rfl, rfl, rfl, w2⟩ := open_int Tryz.underlying3 (hval 2 3 v2 rfl rfl) h2
 obtain ⟨A3, len3, cap3, rfl⟩ := okWide_slice Tryz.underlying26 (hval 3 26 v3 rfl rfl)
 have k3 := h3
 have lt3 : ∀ x ∈ p3, x.block < W.heap.size := by obtain ⟨m, hm⟩ := k3; exact DataW.trod_lt m _ _ _ hm
 obtain ⟨f3, hf3⟩ := h3
 obtain ⟨xs3, rfl, hr3, hc3⟩ := open_runes hf3
 clear hA0 hval0 hsz0
 refine (PWalk.EditInserts.walk A0 cap0 xs0 W hr0 hc0 hi0 a1 a2 w2 A3 cap3 xs3 hr3 hc3).mono fun e W' ⟨he, bel⟩ => ?_
 subst he
 exact ⟨_, rfl, _, _, _, [], _, [], hW', trodAll_mk1 (shut_bool Tryz.underlying4 _), (trodAll_cons_mk (Below.trod laidOut (by kernel_rfl) (of_decide_eq_true (by kernel_rfl)) k0 bel lt0) (trodAll_cons_mk (w1 _ _ _ _) (trodAll_cons_mk (shut_int Tryz.underlying3 w2) (trodAll_cons_mk (Below.trod laidOut (by kernel_rfl) (of_decide_eq_true (by kernel_rfl)) k3 bel lt3) trodAll_mk0)))), rfl, bel.frame _, fun h => by cases h⟩
theorem over : Rows.editInsertsRow.holds Tryz.pinned (OpenSpec.ofChange Rows.editInsertsSpec) :=
 OpenClaim.holds_of_wide 3 Tryz.f3 rfl rfl rfl rfl rfl rfl rfl ⟨rfl, rfl, rfl, rfl, rfl⟩ rfl rfl rfl rfl rfl (by kernel_rfl) Tryz.func3 (by kernel_rfl)
  (of_decide_eq_true (by kernel_rfl)) (by unfold Func.isWrapper; first | (rw [if_pos (by decide +kernel)]; kernel_rfl) | (rw [if_neg (by decide +kernel)]; exact ⟨rfl, rfl⟩))
  (fun os started H enc _ => lifted os started H enc)
theorem proved : Rows.EditInsertsSaid := over
#print axioms proved
end Go.Proofs.YtmbndijbpgobeaaGreat.editInserts
end
