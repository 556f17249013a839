/-
  No cell of these rows narrows 'for every input' (looked for: loops, veiled, ifaces, maps, wideKeys, modest, calm, conditions, laid).
  DERIVED. THE GIVEN ROWS OF THIS SEAT. 4 by the template 'for every input the law returns true; each argument reads behind the call as it read before'; 0 by the template 'total and deterministic' (their statements: YtefejajofmpjdaaGreatTotals.lean).
  GIVEN WITH THE SEED: the statements are not yours to turn. If you find one false, say at which input.
  Laid BY PROGRAM, IN A SANDBOX (cutbox-rows.mjs): the forced cells as the released guide's own fill.sh prints them over the translation 949180d47aaf72fc… (all of the seat's roots in one cut). By AI agents, Wed Nov 11 2026. No macro, syntax, notation, axiom, sorry.
-/
import Derived.Test.YtefejajofmpjdaaGreatChecked
import GoSem.Claim
import GoSem.ClaimJoined
import GoSem.ClaimMapViews
import Derived.JoinedTies
import Derived.KernelRfl
namespace Go.Proofs.YtefejajofmpjdaaGreat
/- THE CELL 'sum', in the pinned program and in every row, IS THE sha256 OF THE DUMP (.gsa) THAT YtefejajofmpjdaaGreatProg.lean LOADS. Nothing in Lean hashes anything: it is a label: what it is worth is what the hold of that sum in a sandbox is worth. -/
noncomputable def Tryz.pinned : Pinned := { name := "ytefejajofmpjdaagreat", sum := "949180d47aaf72fc7d9255cd65a1c5c8b413a0302a7c4b9b5ba0cde44bb32c02", checked := Tryz.checked }
namespace Rows
def none {H : Type} : Left H := { results := [], args := [] }

/-- 'redpencillaw42.UndoOf': WHATEVER THE INPUT: true; the input reads as it did. -/
def undoOfSpec : ChangeSpec := { name := "undoOf", fn := fun _ => fun
  | [d1, d2] => { results := [.lit (.bool true)], args := [d1, d2] }
  | _ => none }
def undoOfRow : OpenClaim := { program := "ytefejajofmpjdaagreat", sum := "949180d47aaf72fc7d9255cd65a1c5c8b413a0302a7c4b9b5ba0cde44bb32c02", func := "redpencil/redpencillaw42.UndoOf", spec := "undoOf", inPlace := ["slices.overlaps[redpencil/omap.entry[redpencil/api.Dot, []redpencil/api.Node]]"], unfollowed := true, recurses := true, plainKeys := false, apart := false }
def UndoOfSaid : Prop := undoOfRow.holds Tryz.pinned (OpenSpec.ofChange undoOfSpec)

/-- ITS FALSE NEIGHBOUR: 'it returns false'. Refute it at one input. -/
def undoOfWrong : ChangeSpec := { name := "undoOf", fn := fun _ => fun
  | [d1, d2] => { results := [.lit (.bool false)], args := [d1, d2] }
  | _ => none }
def UndoOfWrongFalsely : Prop := undoOfRow.holds Tryz.pinned (OpenSpec.ofChange undoOfWrong)

/-- 'redpencillaw42.UndoDepth': WHATEVER THE INPUT: true; the input reads as it did. -/
def undoDepthSpec : ChangeSpec := { name := "undoDepth", fn := fun _ => fun
  | [d] => { results := [.lit (.bool true)], args := [d] }
  | _ => none }
def undoDepthRow : OpenClaim := { program := "ytefejajofmpjdaagreat", sum := "949180d47aaf72fc7d9255cd65a1c5c8b413a0302a7c4b9b5ba0cde44bb32c02", func := "redpencil/redpencillaw42.UndoDepth", spec := "undoDepth", inPlace := ["slices.overlaps[redpencil/omap.entry[redpencil/api.Dot, []redpencil/api.Node]]"], unfollowed := true, recurses := true, plainKeys := false, apart := false }
def UndoDepthSaid : Prop := undoDepthRow.holds Tryz.pinned (OpenSpec.ofChange undoDepthSpec)

/-- ITS FALSE NEIGHBOUR: 'it returns false'. Refute it at one input. -/
def undoDepthWrong : ChangeSpec := { name := "undoDepth", fn := fun _ => fun
  | [d] => { results := [.lit (.bool false)], args := [d] }
  | _ => none }
def UndoDepthWrongFalsely : Prop := undoDepthRow.holds Tryz.pinned (OpenSpec.ofChange undoDepthWrong)

/-- 'redpencillaw42.UndoHolds': WHATEVER THE INPUT: true; the input reads as it did. -/
def undoHoldsSpec : ChangeSpec := { name := "undoHolds", fn := fun _ => fun
  | [d1, d2, d3] => { results := [.lit (.bool true)], args := [d1, d2, d3] }
  | _ => none }
def undoHoldsRow : OpenClaim := { program := "ytefejajofmpjdaagreat", sum := "949180d47aaf72fc7d9255cd65a1c5c8b413a0302a7c4b9b5ba0cde44bb32c02", func := "redpencil/redpencillaw42.UndoHolds", spec := "undoHolds", inPlace := ["slices.overlaps[redpencil/omap.entry[redpencil/api.Dot, []redpencil/api.Node]]"], unfollowed := true, recurses := true, plainKeys := false, apart := false }
def UndoHoldsSaid : Prop := undoHoldsRow.holds Tryz.pinned (OpenSpec.ofChange undoHoldsSpec)

/-- ITS FALSE NEIGHBOUR: 'it returns false'. Refute it at one input. -/
def undoHoldsWrong : ChangeSpec := { name := "undoHolds", fn := fun _ => fun
  | [d1, d2, d3] => { results := [.lit (.bool false)], args := [d1, d2, d3] }
  | _ => none }
def UndoHoldsWrongFalsely : Prop := undoHoldsRow.holds Tryz.pinned (OpenSpec.ofChange undoHoldsWrong)

/-- 'redpencillaw42.UndoNil': WHATEVER THE INPUT: true; the input reads as it did. -/
def undoNilSpec : ChangeSpec := { name := "undoNil", fn := fun _ => fun
  | [d1, d2, d3] => { results := [.lit (.bool true)], args := [d1, d2, d3] }
  | _ => none }
def undoNilRow : OpenClaim := { program := "ytefejajofmpjdaagreat", sum := "949180d47aaf72fc7d9255cd65a1c5c8b413a0302a7c4b9b5ba0cde44bb32c02", func := "redpencil/redpencillaw42.UndoNil", spec := "undoNil", inPlace := ["slices.overlaps[redpencil/omap.entry[redpencil/api.Dot, []redpencil/api.Node]]"], unfollowed := true, recurses := true, plainKeys := false, apart := false }
def UndoNilSaid : Prop := undoNilRow.holds Tryz.pinned (OpenSpec.ofChange undoNilSpec)

/-- ITS FALSE NEIGHBOUR: 'it returns false'. Refute it at one input. -/
def undoNilWrong : ChangeSpec := { name := "undoNil", fn := fun _ => fun
  | [d1, d2, d3] => { results := [.lit (.bool false)], args := [d1, d2, d3] }
  | _ => none }
def UndoNilWrongFalsely : Prop := undoNilRow.holds Tryz.pinned (OpenSpec.ofChange undoNilWrong)

/- THE SECOND FORM. 'bulk': how many values and letters a reading holds, each counted each time it is reached (what is shared counts as often as it is met; a slice's spare places count too). A statement '..UptoSaid' is the law's where the arguments, and the package variables that the reading takes, are together of bulk at most 1048576: NARROWER than '..Said'. Prove '..Said' where nothing that the law and all that it calls make is longer than what came in: it says more and counts as full. Else prove '..UptoSaid'. A law counts once. -/
mutual
def uptoBulk {H : Type} : DataW H → Nat
  | .lit (.string bytes) => bytes.length + 1
  | .lit _ => 1
  | .nil => 1
  | .ptr d => uptoBulk d + 1
  | .slice elems spare => uptoBulkAll elems + uptoBulkAll spare + 1
  | .agg parts => uptoBulkAll parts + 1
  | .iface _ d => uptoBulk d + 1
  | .map entries => uptoBulkEntries entries + 1
  | .held _ => 1
def uptoBulkAll {H : Type} : List (DataW H) → Nat
  | [] => 0
  | d :: r => uptoBulk d + uptoBulkAll r
def uptoBulkEntries {H : Type} : List (Lit × DataW H) → Nat
  | [] => 0
  | x :: r => uptoBulkEntry x + uptoBulkEntries r
def uptoBulkEntry {H : Type} : Lit × DataW H → Nat
  | (.string bytes, d) => bytes.length + uptoBulk d + 1
  | (_, d) => uptoBulk d + 1
 end
def uptoSmall : (H : Type) → List (DataW H) → Bool := fun _ ds => decide (uptoBulkAll ds ≤ 1048576)
def OpenSpec.upto (s : _root_.Go.ChangeSpec) : _root_.Go.OpenSpec := { _root_.Go.OpenSpec.ofChange s with cond := some uptoSmall }

/-- 'redpencillaw42.UndoOf', WHERE WHAT IT READS IS OF BULK AT MOST 1048576: true; the input reads as it did. -/
def undoOfUptoRow : OpenClaim := { program := "ytefejajofmpjdaagreat", sum := "949180d47aaf72fc7d9255cd65a1c5c8b413a0302a7c4b9b5ba0cde44bb32c02", func := "redpencil/redpencillaw42.UndoOf", spec := "undoOf", inPlace := ["slices.overlaps[redpencil/omap.entry[redpencil/api.Dot, []redpencil/api.Node]]"], unfollowed := true, recurses := true, plainKeys := false, apart := false, narrowed := true }
def UndoOfUptoSaid : Prop := undoOfUptoRow.holds Tryz.pinned (OpenSpec.upto undoOfSpec)

/-- 'redpencillaw42.UndoDepth', WHERE WHAT IT READS IS OF BULK AT MOST 1048576: true; the input reads as it did. -/
def undoDepthUptoRow : OpenClaim := { program := "ytefejajofmpjdaagreat", sum := "949180d47aaf72fc7d9255cd65a1c5c8b413a0302a7c4b9b5ba0cde44bb32c02", func := "redpencil/redpencillaw42.UndoDepth", spec := "undoDepth", inPlace := ["slices.overlaps[redpencil/omap.entry[redpencil/api.Dot, []redpencil/api.Node]]"], unfollowed := true, recurses := true, plainKeys := false, apart := false, narrowed := true }
def UndoDepthUptoSaid : Prop := undoDepthUptoRow.holds Tryz.pinned (OpenSpec.upto undoDepthSpec)

/-- 'redpencillaw42.UndoHolds', WHERE WHAT IT READS IS OF BULK AT MOST 1048576: true; the input reads as it did. -/
def undoHoldsUptoRow : OpenClaim := { program := "ytefejajofmpjdaagreat", sum := "949180d47aaf72fc7d9255cd65a1c5c8b413a0302a7c4b9b5ba0cde44bb32c02", func := "redpencil/redpencillaw42.UndoHolds", spec := "undoHolds", inPlace := ["slices.overlaps[redpencil/omap.entry[redpencil/api.Dot, []redpencil/api.Node]]"], unfollowed := true, recurses := true, plainKeys := false, apart := false, narrowed := true }
def UndoHoldsUptoSaid : Prop := undoHoldsUptoRow.holds Tryz.pinned (OpenSpec.upto undoHoldsSpec)

/-- 'redpencillaw42.UndoNil', WHERE WHAT IT READS IS OF BULK AT MOST 1048576: true; the input reads as it did. -/
def undoNilUptoRow : OpenClaim := { program := "ytefejajofmpjdaagreat", sum := "949180d47aaf72fc7d9255cd65a1c5c8b413a0302a7c4b9b5ba0cde44bb32c02", func := "redpencil/redpencillaw42.UndoNil", spec := "undoNil", inPlace := ["slices.overlaps[redpencil/omap.entry[redpencil/api.Dot, []redpencil/api.Node]]"], unfollowed := true, recurses := true, plainKeys := false, apart := false, narrowed := true }
def UndoNilUptoSaid : Prop := undoNilUptoRow.holds Tryz.pinned (OpenSpec.upto undoNilSpec)

end Rows
end Go.Proofs.YtefejajofmpjdaaGreat
