/-
  No cell of these rows narrows 'for every input' (looked for: loops, veiled, ifaces, maps, wideKeys, modest, calm, conditions, laid).
  DERIVED. THE GIVEN ROWS OF THIS SEAT. 10 by the template 'for every input the law returns true; each argument reads behind the call as it read before'; 0 by the template 'total and deterministic' (their statements: YtjlpaagnajmogaaGreatTotals.lean).
  GIVEN WITH THE SEED: the statements are not yours to turn. If you find one false, say at which input.
  Laid BY PROGRAM, IN A SANDBOX (cutbox-rows.mjs): the forced cells as the released guide's own fill.sh prints them over the translation 4e272b08365f3de3… (all of the seat's roots in one cut). By AI agents, Wed Nov 11 2026. No macro, syntax, notation, axiom, sorry.
-/
import Derived.Test.YtjlpaagnajmogaaGreatChecked
import GoSem.Claim
import GoSem.ClaimJoined
import GoSem.ClaimMapViews
import Derived.JoinedTies
import Derived.KernelRfl
namespace Go.Proofs.YtjlpaagnajmogaaGreat
/- THE CELL 'sum', in the pinned program and in every row, IS THE sha256 OF THE DUMP (.gsa) THAT YtjlpaagnajmogaaGreatProg.lean LOADS. Nothing in Lean hashes anything: it is a label: what it is worth is what the hold of that sum in a sandbox is worth. -/
noncomputable def Tryz.pinned : Pinned := { name := "ytjlpaagnajmogaagreat", sum := "4e272b08365f3de340ff06aaf8d51464f0649881739019071a147624de038122", checked := Tryz.checked }
namespace Rows
def none {H : Type} : Left H := { results := [], args := [] }

/-- 'redpencillaw11.WalkChildren': WHATEVER THE INPUT: true; the input reads as it did. -/
def walkChildrenSpec : ChangeSpec := { name := "walkChildren", fn := fun _ => fun
  | [d1, d2] => { results := [.lit (.bool true)], args := [d1, d2] }
  | _ => none }
def walkChildrenRow : OpenClaim := { program := "ytjlpaagnajmogaagreat", sum := "4e272b08365f3de340ff06aaf8d51464f0649881739019071a147624de038122", func := "redpencil/redpencillaw11.WalkChildren", spec := "walkChildren", inPlace := ["slices.overlaps[redpencil/omap.entry[redpencil/api.Dot, []redpencil/api.Node]]"], unfollowed := true, recurses := true, plainKeys := false, apart := false }
def WalkChildrenSaid : Prop := walkChildrenRow.holds Tryz.pinned (OpenSpec.ofChange walkChildrenSpec)

/-- ITS FALSE NEIGHBOUR: 'it returns false'. Refute it at one input. -/
def walkChildrenWrong : ChangeSpec := { name := "walkChildren", fn := fun _ => fun
  | [d1, d2] => { results := [.lit (.bool false)], args := [d1, d2] }
  | _ => none }
def WalkChildrenWrongFalsely : Prop := walkChildrenRow.holds Tryz.pinned (OpenSpec.ofChange walkChildrenWrong)

/-- 'redpencillaw11.WalkOrders': WHATEVER THE INPUT: true; the input reads as it did. -/
def walkOrdersSpec : ChangeSpec := { name := "walkOrders", fn := fun _ => fun
  | [d1, d2] => { results := [.lit (.bool true)], args := [d1, d2] }
  | _ => none }
def walkOrdersRow : OpenClaim := { program := "ytjlpaagnajmogaagreat", sum := "4e272b08365f3de340ff06aaf8d51464f0649881739019071a147624de038122", func := "redpencil/redpencillaw11.WalkOrders", spec := "walkOrders", inPlace := ["slices.overlaps[redpencil/omap.entry[redpencil/api.Dot, []redpencil/api.Node]]"], unfollowed := true, recurses := true, plainKeys := false, apart := false }
def WalkOrdersSaid : Prop := walkOrdersRow.holds Tryz.pinned (OpenSpec.ofChange walkOrdersSpec)

/-- ITS FALSE NEIGHBOUR: 'it returns false'. Refute it at one input. -/
def walkOrdersWrong : ChangeSpec := { name := "walkOrders", fn := fun _ => fun
  | [d1, d2] => { results := [.lit (.bool false)], args := [d1, d2] }
  | _ => none }
def WalkOrdersWrongFalsely : Prop := walkOrdersRow.holds Tryz.pinned (OpenSpec.ofChange walkOrdersWrong)

/-- 'redpencillaw11.WalkPaths': WHATEVER THE INPUT: true; the input reads as it did. -/
def walkPathsSpec : ChangeSpec := { name := "walkPaths", fn := fun _ => fun
  | [d1, d2] => { results := [.lit (.bool true)], args := [d1, d2] }
  | _ => none }
def walkPathsRow : OpenClaim := { program := "ytjlpaagnajmogaagreat", sum := "4e272b08365f3de340ff06aaf8d51464f0649881739019071a147624de038122", func := "redpencil/redpencillaw11.WalkPaths", spec := "walkPaths", inPlace := ["slices.overlaps[redpencil/omap.entry[redpencil/api.Dot, []redpencil/api.Node]]"], unfollowed := true, recurses := true, plainKeys := false, apart := false }
def WalkPathsSaid : Prop := walkPathsRow.holds Tryz.pinned (OpenSpec.ofChange walkPathsSpec)

/-- ITS FALSE NEIGHBOUR: 'it returns false'. Refute it at one input. -/
def walkPathsWrong : ChangeSpec := { name := "walkPaths", fn := fun _ => fun
  | [d1, d2] => { results := [.lit (.bool false)], args := [d1, d2] }
  | _ => none }
def WalkPathsWrongFalsely : Prop := walkPathsRow.holds Tryz.pinned (OpenSpec.ofChange walkPathsWrong)

/-- 'redpencillaw11.WalkLongs': WHATEVER THE INPUT: true; the input reads as it did. -/
def walkLongsSpec : ChangeSpec := { name := "walkLongs", fn := fun _ => fun
  | [d1, d2] => { results := [.lit (.bool true)], args := [d1, d2] }
  | _ => none }
def walkLongsRow : OpenClaim := { program := "ytjlpaagnajmogaagreat", sum := "4e272b08365f3de340ff06aaf8d51464f0649881739019071a147624de038122", func := "redpencil/redpencillaw11.WalkLongs", spec := "walkLongs", inPlace := ["slices.overlaps[redpencil/omap.entry[redpencil/api.Dot, []redpencil/api.Node]]"], unfollowed := true, recurses := true, plainKeys := false, apart := false }
def WalkLongsSaid : Prop := walkLongsRow.holds Tryz.pinned (OpenSpec.ofChange walkLongsSpec)

/-- ITS FALSE NEIGHBOUR: 'it returns false'. Refute it at one input. -/
def walkLongsWrong : ChangeSpec := { name := "walkLongs", fn := fun _ => fun
  | [d1, d2] => { results := [.lit (.bool false)], args := [d1, d2] }
  | _ => none }
def WalkLongsWrongFalsely : Prop := walkLongsRow.holds Tryz.pinned (OpenSpec.ofChange walkLongsWrong)

/-- 'redpencillaw12.IndexTexts': WHATEVER THE INPUT: true; the input reads as it did. -/
def indexTextsSpec : ChangeSpec := { name := "indexTexts", fn := fun _ => fun
  | [d] => { results := [.lit (.bool true)], args := [d] }
  | _ => none }
def indexTextsRow : OpenClaim := { program := "ytjlpaagnajmogaagreat", sum := "4e272b08365f3de340ff06aaf8d51464f0649881739019071a147624de038122", func := "redpencil/redpencillaw12.IndexTexts", spec := "indexTexts", inPlace := ["slices.overlaps[redpencil/omap.entry[redpencil/api.Dot, []redpencil/api.Node]]"], unfollowed := true, recurses := true, plainKeys := false, apart := false }
def IndexTextsSaid : Prop := indexTextsRow.holds Tryz.pinned (OpenSpec.ofChange indexTextsSpec)

/-- ITS FALSE NEIGHBOUR: 'it returns false'. Refute it at one input. -/
def indexTextsWrong : ChangeSpec := { name := "indexTexts", fn := fun _ => fun
  | [d] => { results := [.lit (.bool false)], args := [d] }
  | _ => none }
def IndexTextsWrongFalsely : Prop := indexTextsRow.holds Tryz.pinned (OpenSpec.ofChange indexTextsWrong)

/-- 'redpencillaw12.IndexFinds': WHATEVER THE INPUT: true; the input reads as it did. -/
def indexFindsSpec : ChangeSpec := { name := "indexFinds", fn := fun _ => fun
  | [d1, d2, d3] => { results := [.lit (.bool true)], args := [d1, d2, d3] }
  | _ => none }
def indexFindsRow : OpenClaim := { program := "ytjlpaagnajmogaagreat", sum := "4e272b08365f3de340ff06aaf8d51464f0649881739019071a147624de038122", func := "redpencil/redpencillaw12.IndexFinds", spec := "indexFinds", inPlace := ["slices.overlaps[redpencil/omap.entry[redpencil/api.Dot, []redpencil/api.Node]]"], unfollowed := true, recurses := true, plainKeys := false, apart := false }
def IndexFindsSaid : Prop := indexFindsRow.holds Tryz.pinned (OpenSpec.ofChange indexFindsSpec)

/-- ITS FALSE NEIGHBOUR: 'it returns false'. Refute it at one input. -/
def indexFindsWrong : ChangeSpec := { name := "indexFinds", fn := fun _ => fun
  | [d1, d2, d3] => { results := [.lit (.bool false)], args := [d1, d2, d3] }
  | _ => none }
def IndexFindsWrongFalsely : Prop := indexFindsRow.holds Tryz.pinned (OpenSpec.ofChange indexFindsWrong)

/-- 'redpencillaw12.IndexParts': WHATEVER THE INPUT: true; the input reads as it did. -/
def indexPartsSpec : ChangeSpec := { name := "indexParts", fn := fun _ => fun
  | [d1, d2, d3, d4] => { results := [.lit (.bool true)], args := [d1, d2, d3, d4] }
  | _ => none }
def indexPartsRow : OpenClaim := { program := "ytjlpaagnajmogaagreat", sum := "4e272b08365f3de340ff06aaf8d51464f0649881739019071a147624de038122", func := "redpencil/redpencillaw12.IndexParts", spec := "indexParts", inPlace := ["slices.overlaps[redpencil/omap.entry[redpencil/api.Dot, []redpencil/api.Node]]"], unfollowed := true, recurses := true, plainKeys := false, apart := false }
def IndexPartsSaid : Prop := indexPartsRow.holds Tryz.pinned (OpenSpec.ofChange indexPartsSpec)

/-- ITS FALSE NEIGHBOUR: 'it returns false'. Refute it at one input. -/
def indexPartsWrong : ChangeSpec := { name := "indexParts", fn := fun _ => fun
  | [d1, d2, d3, d4] => { results := [.lit (.bool false)], args := [d1, d2, d3, d4] }
  | _ => none }
def IndexPartsWrongFalsely : Prop := indexPartsRow.holds Tryz.pinned (OpenSpec.ofChange indexPartsWrong)

/-- 'redpencillaw11.WalkHolds': WHATEVER THE INPUT: true; the input reads as it did. -/
def walkHoldsSpec : ChangeSpec := { name := "walkHolds", fn := fun _ => fun
  | [d] => { results := [.lit (.bool true)], args := [d] }
  | _ => none }
def walkHoldsRow : OpenClaim := { program := "ytjlpaagnajmogaagreat", sum := "4e272b08365f3de340ff06aaf8d51464f0649881739019071a147624de038122", func := "redpencil/redpencillaw11.WalkHolds", spec := "walkHolds", inPlace := ["slices.overlaps[redpencil/omap.entry[redpencil/api.Dot, []redpencil/api.Node]]"], unfollowed := true, recurses := true, plainKeys := false, apart := false }
def WalkHoldsSaid : Prop := walkHoldsRow.holds Tryz.pinned (OpenSpec.ofChange walkHoldsSpec)

/-- ITS FALSE NEIGHBOUR: 'it returns false'. Refute it at one input. -/
def walkHoldsWrong : ChangeSpec := { name := "walkHolds", fn := fun _ => fun
  | [d] => { results := [.lit (.bool false)], args := [d] }
  | _ => none }
def WalkHoldsWrongFalsely : Prop := walkHoldsRow.holds Tryz.pinned (OpenSpec.ofChange walkHoldsWrong)

/-- 'redpencillaw12.IndexDies': WHATEVER THE INPUT: true; the input reads as it did. -/
def indexDiesSpec : ChangeSpec := { name := "indexDies", fn := fun _ => fun
  | [d1, d2] => { results := [.lit (.bool true)], args := [d1, d2] }
  | _ => none }
def indexDiesRow : OpenClaim := { program := "ytjlpaagnajmogaagreat", sum := "4e272b08365f3de340ff06aaf8d51464f0649881739019071a147624de038122", func := "redpencil/redpencillaw12.IndexDies", spec := "indexDies", inPlace := ["slices.overlaps[redpencil/omap.entry[redpencil/api.Dot, []redpencil/api.Node]]"], unfollowed := true, recurses := true, plainKeys := false, apart := false }
def IndexDiesSaid : Prop := indexDiesRow.holds Tryz.pinned (OpenSpec.ofChange indexDiesSpec)

/-- ITS FALSE NEIGHBOUR: 'it returns false'. Refute it at one input. -/
def indexDiesWrong : ChangeSpec := { name := "indexDies", fn := fun _ => fun
  | [d1, d2] => { results := [.lit (.bool false)], args := [d1, d2] }
  | _ => none }
def IndexDiesWrongFalsely : Prop := indexDiesRow.holds Tryz.pinned (OpenSpec.ofChange indexDiesWrong)

/-- 'redpencillaw11.WalkGrows': WHATEVER THE INPUT: true; the input reads as it did. -/
def walkGrowsSpec : ChangeSpec := { name := "walkGrows", fn := fun _ => fun
  | [d1, d2, d3] => { results := [.lit (.bool true)], args := [d1, d2, d3] }
  | _ => none }
def walkGrowsRow : OpenClaim := { program := "ytjlpaagnajmogaagreat", sum := "4e272b08365f3de340ff06aaf8d51464f0649881739019071a147624de038122", func := "redpencil/redpencillaw11.WalkGrows", spec := "walkGrows", inPlace := ["slices.overlaps[redpencil/omap.entry[redpencil/api.Dot, []redpencil/api.Node]]"], unfollowed := true, recurses := true, plainKeys := false, apart := false }
def WalkGrowsSaid : Prop := walkGrowsRow.holds Tryz.pinned (OpenSpec.ofChange walkGrowsSpec)

/-- ITS FALSE NEIGHBOUR: 'it returns false'. Refute it at one input. -/
def walkGrowsWrong : ChangeSpec := { name := "walkGrows", fn := fun _ => fun
  | [d1, d2, d3] => { results := [.lit (.bool false)], args := [d1, d2, d3] }
  | _ => none }
def WalkGrowsWrongFalsely : Prop := walkGrowsRow.holds Tryz.pinned (OpenSpec.ofChange walkGrowsWrong)

/- THE SECOND FORM. 'bulk': how many values and letters a reading holds, each counted each time it is reached (what is shared counts as often as it is met; a slice's spare places count too). A statement '..UptoSaid' is the law's where the arguments, and the package variables that the reading takes, are together of bulk at most 1048576: NARROWER than '..Said'. Prove '..Said' where nothing that the law and all that it calls make is longer than what came in: it says more and counts as full. Else prove '..UptoSaid'. A law counts once. -/
mutual
def uptoBulk {H : Type} : DataW H → Nat
  | .lit (.string bytes) => bytes.length + 1
  | .lit _ => 1
  | .nil => 1
  | .ptr d => uptoBulk d + 1
  | .slice elems spare => uptoBulkAll elems + uptoBulkAll spare + 1
  | .agg parts => uptoBulkAll parts + 1
  | .iface _ d => uptoBulk d + 1
  | .map entries => uptoBulkEntries entries + 1
  | .held _ => 1
def uptoBulkAll {H : Type} : List (DataW H) → Nat
  | [] => 0
  | d :: r => uptoBulk d + uptoBulkAll r
def uptoBulkEntries {H : Type} : List (Lit × DataW H) → Nat
  | [] => 0
  | x :: r => uptoBulkEntry x + uptoBulkEntries r
def uptoBulkEntry {H : Type} : Lit × DataW H → Nat
  | (.string bytes, d) => bytes.length + uptoBulk d + 1
  | (_, d) => uptoBulk d + 1
 end
def uptoSmall : (H : Type) → List (DataW H) → Bool := fun _ ds => decide (uptoBulkAll ds ≤ 1048576)
def OpenSpec.upto (s : _root_.Go.ChangeSpec) : _root_.Go.OpenSpec := { _root_.Go.OpenSpec.ofChange s with cond := some uptoSmall }

/-- 'redpencillaw11.WalkChildren', WHERE WHAT IT READS IS OF BULK AT MOST 1048576: true; the input reads as it did. -/
def walkChildrenUptoRow : OpenClaim := { program := "ytjlpaagnajmogaagreat", sum := "4e272b08365f3de340ff06aaf8d51464f0649881739019071a147624de038122", func := "redpencil/redpencillaw11.WalkChildren", spec := "walkChildren", inPlace := ["slices.overlaps[redpencil/omap.entry[redpencil/api.Dot, []redpencil/api.Node]]"], unfollowed := true, recurses := true, plainKeys := false, apart := false, narrowed := true }
def WalkChildrenUptoSaid : Prop := walkChildrenUptoRow.holds Tryz.pinned (OpenSpec.upto walkChildrenSpec)

/-- 'redpencillaw11.WalkOrders', WHERE WHAT IT READS IS OF BULK AT MOST 1048576: true; the input reads as it did. -/
def walkOrdersUptoRow : OpenClaim := { program := "ytjlpaagnajmogaagreat", sum := "4e272b08365f3de340ff06aaf8d51464f0649881739019071a147624de038122", func := "redpencil/redpencillaw11.WalkOrders", spec := "walkOrders", inPlace := ["slices.overlaps[redpencil/omap.entry[redpencil/api.Dot, []redpencil/api.Node]]"], unfollowed := true, recurses := true, plainKeys := false, apart := false, narrowed := true }
def WalkOrdersUptoSaid : Prop := walkOrdersUptoRow.holds Tryz.pinned (OpenSpec.upto walkOrdersSpec)

/-- 'redpencillaw11.WalkPaths', WHERE WHAT IT READS IS OF BULK AT MOST 1048576: true; the input reads as it did. -/
def walkPathsUptoRow : OpenClaim := { program := "ytjlpaagnajmogaagreat", sum := "4e272b08365f3de340ff06aaf8d51464f0649881739019071a147624de038122", func := "redpencil/redpencillaw11.WalkPaths", spec := "walkPaths", inPlace := ["slices.overlaps[redpencil/omap.entry[redpencil/api.Dot, []redpencil/api.Node]]"], unfollowed := true, recurses := true, plainKeys := false, apart := false, narrowed := true }
def WalkPathsUptoSaid : Prop := walkPathsUptoRow.holds Tryz.pinned (OpenSpec.upto walkPathsSpec)

/-- 'redpencillaw11.WalkLongs', WHERE WHAT IT READS IS OF BULK AT MOST 1048576: true; the input reads as it did. -/
def walkLongsUptoRow : OpenClaim := { program := "ytjlpaagnajmogaagreat", sum := "4e272b08365f3de340ff06aaf8d51464f0649881739019071a147624de038122", func := "redpencil/redpencillaw11.WalkLongs", spec := "walkLongs", inPlace := ["slices.overlaps[redpencil/omap.entry[redpencil/api.Dot, []redpencil/api.Node]]"], unfollowed := true, recurses := true, plainKeys := false, apart := false, narrowed := true }
def WalkLongsUptoSaid : Prop := walkLongsUptoRow.holds Tryz.pinned (OpenSpec.upto walkLongsSpec)

/-- 'redpencillaw12.IndexTexts', WHERE WHAT IT READS IS OF BULK AT MOST 1048576: true; the input reads as it did. -/
def indexTextsUptoRow : OpenClaim := { program := "ytjlpaagnajmogaagreat", sum := "4e272b08365f3de340ff06aaf8d51464f0649881739019071a147624de038122", func := "redpencil/redpencillaw12.IndexTexts", spec := "indexTexts", inPlace := ["slices.overlaps[redpencil/omap.entry[redpencil/api.Dot, []redpencil/api.Node]]"], unfollowed := true, recurses := true, plainKeys := false, apart := false, narrowed := true }
def IndexTextsUptoSaid : Prop := indexTextsUptoRow.holds Tryz.pinned (OpenSpec.upto indexTextsSpec)

/-- 'redpencillaw12.IndexFinds', WHERE WHAT IT READS IS OF BULK AT MOST 1048576: true; the input reads as it did. -/
def indexFindsUptoRow : OpenClaim := { program := "ytjlpaagnajmogaagreat", sum := "4e272b08365f3de340ff06aaf8d51464f0649881739019071a147624de038122", func := "redpencil/redpencillaw12.IndexFinds", spec := "indexFinds", inPlace := ["slices.overlaps[redpencil/omap.entry[redpencil/api.Dot, []redpencil/api.Node]]"], unfollowed := true, recurses := true, plainKeys := false, apart := false, narrowed := true }
def IndexFindsUptoSaid : Prop := indexFindsUptoRow.holds Tryz.pinned (OpenSpec.upto indexFindsSpec)

/-- 'redpencillaw12.IndexParts', WHERE WHAT IT READS IS OF BULK AT MOST 1048576: true; the input reads as it did. -/
def indexPartsUptoRow : OpenClaim := { program := "ytjlpaagnajmogaagreat", sum := "4e272b08365f3de340ff06aaf8d51464f0649881739019071a147624de038122", func := "redpencil/redpencillaw12.IndexParts", spec := "indexParts", inPlace := ["slices.overlaps[redpencil/omap.entry[redpencil/api.Dot, []redpencil/api.Node]]"], unfollowed := true, recurses := true, plainKeys := false, apart := false, narrowed := true }
def IndexPartsUptoSaid : Prop := indexPartsUptoRow.holds Tryz.pinned (OpenSpec.upto indexPartsSpec)

/-- 'redpencillaw11.WalkHolds', WHERE WHAT IT READS IS OF BULK AT MOST 1048576: true; the input reads as it did. -/
def walkHoldsUptoRow : OpenClaim := { program := "ytjlpaagnajmogaagreat", sum := "4e272b08365f3de340ff06aaf8d51464f0649881739019071a147624de038122", func := "redpencil/redpencillaw11.WalkHolds", spec := "walkHolds", inPlace := ["slices.overlaps[redpencil/omap.entry[redpencil/api.Dot, []redpencil/api.Node]]"], unfollowed := true, recurses := true, plainKeys := false, apart := false, narrowed := true }
def WalkHoldsUptoSaid : Prop := walkHoldsUptoRow.holds Tryz.pinned (OpenSpec.upto walkHoldsSpec)

/-- 'redpencillaw12.IndexDies', WHERE WHAT IT READS IS OF BULK AT MOST 1048576: true; the input reads as it did. -/
def indexDiesUptoRow : OpenClaim := { program := "ytjlpaagnajmogaagreat", sum := "4e272b08365f3de340ff06aaf8d51464f0649881739019071a147624de038122", func := "redpencil/redpencillaw12.IndexDies", spec := "indexDies", inPlace := ["slices.overlaps[redpencil/omap.entry[redpencil/api.Dot, []redpencil/api.Node]]"], unfollowed := true, recurses := true, plainKeys := false, apart := false, narrowed := true }
def IndexDiesUptoSaid : Prop := indexDiesUptoRow.holds Tryz.pinned (OpenSpec.upto indexDiesSpec)

/-- 'redpencillaw11.WalkGrows', WHERE WHAT IT READS IS OF BULK AT MOST 1048576: true; the input reads as it did. -/
def walkGrowsUptoRow : OpenClaim := { program := "ytjlpaagnajmogaagreat", sum := "4e272b08365f3de340ff06aaf8d51464f0649881739019071a147624de038122", func := "redpencil/redpencillaw11.WalkGrows", spec := "walkGrows", inPlace := ["slices.overlaps[redpencil/omap.entry[redpencil/api.Dot, []redpencil/api.Node]]"], unfollowed := true, recurses := true, plainKeys := false, apart := false, narrowed := true }
def WalkGrowsUptoSaid : Prop := walkGrowsUptoRow.holds Tryz.pinned (OpenSpec.upto walkGrowsSpec)

end Rows
end Go.Proofs.YtjlpaagnajmogaaGreat
