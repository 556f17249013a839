/-
  The law FormWholes holds, told as a card: every slice of nodes, nil too; the words of the flaws laid by the program's own start.
-/
import Derived.Test.YtjlpaagnajmogaaDoorFormWholes
import Derived.Test.YtjlpaagnajmogaaDoorRows
import Derived.Test.YtjlpaagnajmogaaDoorTie
import Derived.Test.YtjlpaagnajmogaaDoorCards
import Derived.Test.YtjlpaagnajmogaaDoorLaidStr
import Derived.WalkKit
import Derived.ProofKit
import Derived.OpenShut
import Derived.ShutString
import Derived.ChangeOld
import Derived.Below
import Derived.SizedLaws
import Derived.Deep.DeepHandedRow
import Derived.Deep.Slices
import Derived.Lib.SmallJoins
namespace Go.Proofs.YtjlpaagnajmogaaDoor.formWholes
open Go.ChangeShapes Go.WideShapes Go.ChangeAt Go.RowKit
open Go.ChangeMaps (open_string shut_string)
open Go.Proofs.YtjlpaagnajmogaaDoorW.PrintWords
set_option linter.unusedVariables false
theorem own : ownKnob Tryd.prog.godebug = none := by kernel_rfl
theorem laidOut : laidOutB Tryd.prog = true := by kernel_rfl
theorem gWords : Tryd.prog.globalNamed "redpencil/shape.words" = some 0 := by kernel_rfl
theorem gWordsType : (Tryd.prog.globals[0]?).map (·.type) = some 73 := by kernel_rfl
theorem cellsStr : Tryd.prog.cellsOf 9 = 1 := by kernel_rfl
theorem cellsWords : Tryd.prog.cellsOf 73 = 5 := by kernel_rfl
/-- The settled world, the variable holding what its initialiser lays: the witness. -/
noncomputable def laidWorld (os : Os) : World :=
  { World.holding Tryd.prog os ⟨#[], #[], []⟩ with heap := (World.holding Tryd.prog os ⟨#[], #[], []⟩).heap.modify 0 fun
      | .cells _ t frozen => .cells (PForm.wordList.map fun z => Value.string z).toArray t frozen
      | o => o }
theorem bytes_eq {a b : ByteArray} (h : a.data.toList = b.data.toList) : a = b := by
  cases a; cases b; simp at h; subst h; rfl
/-- The row's condition, as the walks ask for it. -/
theorem words_of_laid {W : World} (h : laidMetH Tryd.prog [("redpencil/shape.words", Rows.laid_redpencil_shape_words)] W) : PForm.WordsAt W := by
  have h' : laidMet Tryd.prog (("redpencil/shape.words", .agg ((PForm.wordList.map (·.data.toList)).map fun s => .lit (.string s))) :: []) W := h
  intro i s hs
  obtain ⟨b, hb, e⟩ := LaidStr.cell_of_laid gWords gWordsType Tryd.underlying73 Tryd.underlying9 cellsStr cellsWords h' i s.data.toList (by rw [List.getElem?_map, hs]; rfl)
  rw [hb, bytes_eq e]

theorem six_of {α : Type} {cs : List α} (h : cs.length = 6) : ∃ c0 c1 c2 c3 c4 c5, cs = [c0, c1, c2, c3, c4, c5] := by
  match cs, h with
  | [a, b, c, d, e, f], _ => exact ⟨a, b, c, d, e, f, rfl⟩
theorem open_node {H : Type} {enc : TypeId × Value → H} {W : World} {base : Nat} {sp : Nat → Bool} {held : Bool} {fuel : Nat} {cs : List Value} {x : DataW H × List MemPlace} (h : DataW.trod enc Tryd.prog W base sp held fuel 37 cs = some x) :
    ∃ n : PForm.Node, cs = PForm.nodeCells n ∧ PForm.runeIn n.f3 := by
  have e37 : Tryd.prog.cellsOf 37 = 6 := by kernel_rfl
  have e35 : Tryd.prog.cellsOf 35 = 2 := by kernel_rfl
  have e3 : Tryd.prog.cellsOf 3 = 1 := by kernel_rfl
  have e21 : Tryd.prog.cellsOf 21 = 1 := by kernel_rfl
  obtain ⟨y0, y1, y2, y3, n, rfl, hl, h0, h1, h2, h3⟩ := Go.Joins.trod_struct4 Tryd.underlying37 h
  rw [e37] at hl
  obtain ⟨c0, c1, c2, c3, c4, c5, rfl⟩ := six_of hl
  simp only [e35, e3, e21, List.drop_zero, List.drop_succ_cons, List.take_succ_cons, List.take_zero] at h0 h1 h2 h3
  obtain ⟨_, _, _, _, _, g0, g1⟩ := trod_struct2 Tryd.underlying35 h0
  obtain ⟨_, _, _, _, _, g2, g3⟩ := trod_struct2 Tryd.underlying35 h1
  simp only [e3, List.drop_zero, List.drop_succ_cons, List.take_succ_cons, List.take_zero] at g0 g1 g2 g3
  obtain ⟨k0, i0, _, _⟩ := DataW.trod_int Tryd.underlying3 g0
  obtain ⟨k1, i1, _, _⟩ := DataW.trod_int Tryd.underlying3 g1
  obtain ⟨k2, i2, _, _⟩ := DataW.trod_int Tryd.underlying3 g2
  obtain ⟨k3, i3, _, _⟩ := DataW.trod_int Tryd.underlying3 g3
  obtain ⟨k4, i4, _, _⟩ := DataW.trod_int Tryd.underlying3 h2
  obtain ⟨k5, i5, _, hw⟩ := DataW.trod_int Tryd.underlying21 h3
  simp only [List.cons.injEq, and_true] at i0 i1 i2 i3 i4 i5
  subst i0 i1 i2 i3 i4 i5
  refine ⟨⟨⟨k0, k1⟩, ⟨k2, k3⟩, k4, k5⟩, rfl, ?_⟩
  have hw2 : -2147483648 ≤ k5 ∧ k5 ≤ 2147483647 := by simpa [Lit.wf, IntKind.min, IntKind.max, IntKind.signed, IntKind.bits] using hw
  exact ⟨by show _ ≤ k5; omega, by show k5 ≤ _; omega⟩
/-- A []api.Node that came in, nil or not. -/
theorem open_nodes {H : Type} {enc : TypeId × Value → H} {W : World} {A : Option Addr} {len cap : Nat} {x : DataW H × List MemPlace} {fuel : Nat} (h : DataW.trod enc Tryd.prog W 0 (fun _ => true) true fuel 22 [.slice A len cap] = some x) :
    ∃ xs : List PForm.Node, xs.length = len ∧ Kd.C PForm.k37 W A len xs ∧ len ≤ cap ∧ ∀ n ∈ xs, PForm.runeIn n.f3 := by
  have e37 : Tryd.prog.cellsOf 37 = 6 := by kernel_rfl
  rcases Go.Deep.open_slice Tryd.underlying22 h with ⟨hcs, _⟩ | ⟨a, len', cap', m, n, D, Pl, hcs, _, hl, hm, hmm, _, hx⟩
  · simp at hcs
    obtain ⟨rfl, rfl, rfl⟩ := hcs
    exact ⟨[], rfl, ⟨rfl, by omega, fun hp => absurd hp (by omega)⟩, Nat.le_refl _, fun n hn => by cases hn⟩
  · simp at hcs
    obtain ⟨rfl, rfl, rfl⟩ := hcs
    simp only [if_true] at hmm
    subst hmm
    rw [e37] at hx
    haveI : Inhabited PForm.Node := ⟨⟨⟨0, 0⟩, ⟨0, 0⟩, 0, 0⟩⟩
    obtain ⟨N, hN⟩ := Go.Deep.choose_lt (α := PForm.Node) (n := len) (p := fun i nd => PForm.runeIn nd.f3 ∧ ∀ j u, (PForm.nodeCells nd)[j]? = some u → W.cell? (a.add (i * 6 + j)) = some u) (fun i hi => by
      obtain ⟨cs', h1, h2⟩ := hx i (by omega)
      obtain ⟨nd, rfl, hr⟩ := open_node h2
      refine ⟨nd, hr, fun j u hu => ?_⟩
      obtain ⟨_, hlen, hc⟩ := World.cells?_some h1
      have hj : j < 6 := (List.getElem?_eq_some_iff.1 hu).1
      rw [← Addr.add_add a (i * 6) j]
      rw [← hu]
      exact hc j (by simpa using hj))
    refine ⟨(List.range len).map N, by simp, ⟨by simp, Nat.le_trans hl hm, fun hp => ⟨a, rfl, fun i nd hi => ?_⟩⟩, hl, fun nd hnd => ?_⟩
    · have hil : i < len := by simpa using (List.getElem?_eq_some_iff.1 hi).1
      have hnd : nd = N i := by simpa [hil] using hi.symm
      subst hnd
      refine ⟨PForm.nodeCells (N i), rfl, PForm.k37.K_of_M (PForm.k37_mkM W 0 (fun _ => True) (N i)), fun j u hu => (hN i hil).2 j u hu⟩
    · obtain ⟨i, hi, rfl⟩ := List.mem_map.1 hnd
      exact (hN i (by simpa using hi)).1

theorem laid_met (os : Os) (args : Array Value) : laidMet Tryd.prog Rows.formWholesRow.laid ((laidWorld os).forCall (fun _ _ => 0) ⟨#[], args, []⟩).memory :=
  laidMet_of_run' 8 (by kernel_rfl) (by kernel_rfl)
theorem witness_row (os : Os) {H : Type} (enc : TypeId × Value → H) :
    (OpenSpec.ofChange Rows.formWholesSpec).preRow enc Tryd.prog Tryd.f4 Rows.formWholesRow.domain false Rows.formWholesRow.laid ((laidWorld os).forCall (fun _ _ => 0) ⟨#[], #[.slice none 0 0], []⟩).memory #[.slice none 0 0] := by
  have hw : (DataW.whole enc Tryd.prog ((laidWorld os).forCall (fun _ _ => 0) ⟨#[], #[.slice none 0 0], []⟩).memory Tryd.f4.params.toList (OpenSpec.ofChange Rows.formWholesSpec).vars false #[Value.slice none 0 0].toList 8).map (fun x => (x.1, x.2.1)) =
      some ([.nil], []) := by kernel_rfl
  obtain ⟨⟨x1, x2, x3⟩, hx, hx1⟩ := Option.map_eq_some_iff.1 hw
  simp only [Prod.mk.injEq] at hx1
  obtain ⟨rfl, rfl⟩ := hx1
  exact OpenSpec.preRow_of_cond 8 hx (by kernel_rfl) (fun k hk => by cases hk) (by kernel_rfl) (laid_met os _)
set_option maxRecDepth 100000 in
set_option maxHeartbeats 2000000 in
theorem lifted (os : Os) (started : os.Started) (H : Type) (enc : TypeId × Value → H) (F : Stop.Interp) :
    ReturnsInHanded {} Tryd.checked os 4 .any ((OpenSpec.ofChange Rows.formWholesSpec).preRow enc Tryd.prog Tryd.f4 Rows.formWholesRow.domain false Rows.formWholesRow.laid) (((OpenSpec.ofChange Rows.formWholesSpec).at F).post enc Tryd.prog Tryd.f4 false true false false) := by
  refine returnsInHanded_of_row (C := Tryd.checked) (s := OpenSpec.ofChange Rows.formWholesSpec) own started (by kernel_rfl) Tryd.func4
    (witness_row_at (enc := enc) (C := Tryd.checked) false (laidWorld os) #[.slice none 0 0] rfl (by kernel_rfl) (by kernel_rfl) (by kernel_rfl) (witness_row os enc)) ?_
  intro W base args ds gs before hval0 hW _ _ hsz0 hL _ _
  have hval : ∀ (j : Nat) t v, Tryd.f4.params[j]? = some t → args[j]? = some v → Value.okWide Tryd.prog W .any base t v := hval0
  have hW' := hW
  obtain ⟨p, q, hA0, hV, rfl, hfz, hnd⟩ := hW
  have hA : DataW.TrodAll enc Tryd.prog W 0 (fun _ => true) true Tryd.f4.params.toList args.toList ds p := hA0
  rw [Tryd.params4] at hA hval
  obtain ⟨v0, vs0, d0, ds0, p0, q0, hargs, rfl, rfl, h0, r0⟩ := trodAll_cons hA
  obtain ⟨rfl, rfl, rfl⟩ := trodAll_nil r0
  obtain rfl : args = #[v0] := by cases args; simp_all
  obtain ⟨rfl, rfl⟩ := trodVars_none hV
  obtain ⟨A0, len0, cap0, rfl⟩ := okWide_slice Tryd.underlying22 (hval 0 22 v0 rfl rfl)
  have k0 := h0
  have lt0 : ∀ x ∈ p0, x.block < W.heap.size := by obtain ⟨m, hm⟩ := k0; exact DataW.trod_lt m _ _ _ hm
  obtain ⟨f0, hf0⟩ := h0
  obtain ⟨xs, rfl, hr, hc, hi⟩ := open_nodes hf0
  clear hA0 hval0 hsz0
  refine (PForm.FormWholes.walk A0 cap0 xs W hr hc hi (words_of_laid hL)).mono fun e W' ⟨he, bel⟩ => ?_
  subst he
  exact ⟨_, rfl, _, _, _, [], _, [], hW', trodAll_mk1 (shut_bool Tryd.underlying4 _), (trodAll_cons_mk (Below.trod laidOut (by kernel_rfl) (of_decide_eq_true (by kernel_rfl)) k0 bel lt0) trodAll_mk0), rfl, bel.frame _, fun h => by cases h⟩
theorem over : Rows.formWholesRow.holds Tryd.pinned (OpenSpec.ofChange Rows.formWholesSpec) :=
  OpenClaim.holds_of_cond 4 Tryd.f4 rfl rfl rfl rfl rfl rfl rfl ⟨rfl, rfl, rfl, rfl, rfl⟩ rfl rfl rfl rfl rfl (by kernel_rfl) Tryd.func4 (by kernel_rfl)
    (of_decide_eq_true (by kernel_rfl)) (by unfold Func.isWrapper; first | (rw [if_pos (by decide +kernel)]; kernel_rfl) | (rw [if_neg (by decide +kernel)]; exact ⟨rfl, rfl⟩))
    (fun os started H enc _ F0 => by rw [OpenClaim.pre_eq_preRow]; exact lifted os started H enc F0)
theorem proved : Rows.FormWholesCardSaid :=
  Claim7.holds_tied_plain_at .later [] [.data] true (true, "4b3c2fc672e1ddab459379ba8d5df2e09ad50246d42292bdc1d1be274add93db") false
    over (fun _ h => by cases h) (by kernel_rfl) (fun _ h => by cases h) formWholes_row_tie rfl ⟨rfl, rfl⟩ (by kernel_rfl) rfl
    (fun f fn hf hfn => by
      obtain rfl : f = 4 := Option.some.inj ((show Tryd.prog.funcNamed "redpencil/redpencillaw13.FormWholes" = some 4 by kernel_rfl).symm.trans hf) |>.symm
      obtain rfl : fn = Tryd.f4 := (Option.some.inj (Tryd.func4.symm.trans hfn)).symm
      exact ⟨by kernel_rfl, fun j t ht => by
        rw [Tryd.params4] at ht
        have h3 : t = 22 := by
          rcases j with _ | j
          · simpa using ht.symm
          · simp at ht
        subst h3
        exact (show Tryd.prog.wantsStandIn 22 = false by kernel_rfl)⟩)
    (by kernel_rfl)

#print axioms proved
end Go.Proofs.YtjlpaagnajmogaaDoor.formWholes
