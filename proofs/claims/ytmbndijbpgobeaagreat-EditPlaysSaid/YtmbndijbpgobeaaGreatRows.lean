/-
  No cell of these rows narrows 'for every input' (looked for: loops, veiled, ifaces, maps, wideKeys, modest, calm, conditions, laid).
  DERIVED. THE GIVEN ROWS OF THIS SEAT. 7 by the template 'for every input the law returns true; each argument reads behind the call as it read before'; 0 by the template 'total and deterministic' (their statements: YtmbndijbpgobeaaGreatTotals.lean).
  GIVEN WITH THE SEED: the statements are not yours to turn. If you find one false, say at which input.
  Laid BY PROGRAM, IN A SANDBOX (cutbox-rows.mjs): the forced cells as the released guide's own fill.sh prints them over the translation c64e8a2fde3bde34… (all of the seat's roots in one cut). By AI agents, Wed Nov 11 2026. No macro, syntax, notation, axiom, sorry.
-/
import Derived.Test.YtmbndijbpgobeaaGreatChecked
import GoSem.Claim
import GoSem.ClaimJoined
import GoSem.ClaimMapViews
import Derived.JoinedTies
import Derived.KernelRfl
namespace Go.Proofs.YtmbndijbpgobeaaGreat
/- THE CELL 'sum', in the pinned program and in every row, IS THE sha256 OF THE DUMP (.gsa) THAT YtmbndijbpgobeaaGreatProg.lean LOADS. Nothing in Lean hashes anything: it is a label: what it is worth is what the hold of that sum in a sandbox is worth. -/
noncomputable def Tryz.pinned : Pinned := { name := "ytmbndijbpgobeaagreat", sum := "c64e8a2fde3bde347d6020473c939cb4217af05997798920b780677f8fa96745", checked := Tryz.checked }
namespace Rows
def none {H : Type} : Left H := { results := [], args := [] }

/-- 'redpencillaw15.EditInserts': WHATEVER THE INPUT: true; the input reads as it did. -/
def editInsertsSpec : ChangeSpec := { name := "editInserts", fn := fun _ => fun
  | [d1, d2, d3, d4] => { results := [.lit (.bool true)], args := [d1, d2, d3, d4] }
  | _ => none }
def editInsertsRow : OpenClaim := { program := "ytmbndijbpgobeaagreat", sum := "c64e8a2fde3bde347d6020473c939cb4217af05997798920b780677f8fa96745", func := "redpencil/redpencillaw15.EditInserts", spec := "editInserts", inPlace := ["slices.overlaps[redpencil/omap.entry[redpencil/api.Dot, []redpencil/api.Node]]"], unfollowed := true, recurses := true, plainKeys := false, apart := false }
def EditInsertsSaid : Prop := editInsertsRow.holds Tryz.pinned (OpenSpec.ofChange editInsertsSpec)

/-- ITS FALSE NEIGHBOUR: 'it returns false'. Refute it at one input. -/
def editInsertsWrong : ChangeSpec := { name := "editInserts", fn := fun _ => fun
  | [d1, d2, d3, d4] => { results := [.lit (.bool false)], args := [d1, d2, d3, d4] }
  | _ => none }
def EditInsertsWrongFalsely : Prop := editInsertsRow.holds Tryz.pinned (OpenSpec.ofChange editInsertsWrong)

/-- 'redpencillaw15.EditDeletes': WHATEVER THE INPUT: true; the input reads as it did. -/
def editDeletesSpec : ChangeSpec := { name := "editDeletes", fn := fun _ => fun
  | [d1, d2, d3] => { results := [.lit (.bool true)], args := [d1, d2, d3] }
  | _ => none }
def editDeletesRow : OpenClaim := { program := "ytmbndijbpgobeaagreat", sum := "c64e8a2fde3bde347d6020473c939cb4217af05997798920b780677f8fa96745", func := "redpencil/redpencillaw15.EditDeletes", spec := "editDeletes", inPlace := ["slices.overlaps[redpencil/omap.entry[redpencil/api.Dot, []redpencil/api.Node]]"], unfollowed := true, recurses := true, plainKeys := false, apart := false }
def EditDeletesSaid : Prop := editDeletesRow.holds Tryz.pinned (OpenSpec.ofChange editDeletesSpec)

/-- ITS FALSE NEIGHBOUR: 'it returns false'. Refute it at one input. -/
def editDeletesWrong : ChangeSpec := { name := "editDeletes", fn := fun _ => fun
  | [d1, d2, d3] => { results := [.lit (.bool false)], args := [d1, d2, d3] }
  | _ => none }
def EditDeletesWrongFalsely : Prop := editDeletesRow.holds Tryz.pinned (OpenSpec.ofChange editDeletesWrong)

/-- 'redpencillaw15.EditReplaces': WHATEVER THE INPUT: true; the input reads as it did. -/
def editReplacesSpec : ChangeSpec := { name := "editReplaces", fn := fun _ => fun
  | [d1, d2, d3, d4, d5] => { results := [.lit (.bool true)], args := [d1, d2, d3, d4, d5] }
  | _ => none }
def editReplacesRow : OpenClaim := { program := "ytmbndijbpgobeaagreat", sum := "c64e8a2fde3bde347d6020473c939cb4217af05997798920b780677f8fa96745", func := "redpencil/redpencillaw15.EditReplaces", spec := "editReplaces", inPlace := ["slices.overlaps[redpencil/omap.entry[redpencil/api.Dot, []redpencil/api.Node]]"], unfollowed := true, recurses := true, plainKeys := false, apart := false }
def EditReplacesSaid : Prop := editReplacesRow.holds Tryz.pinned (OpenSpec.ofChange editReplacesSpec)

/-- ITS FALSE NEIGHBOUR: 'it returns false'. Refute it at one input. -/
def editReplacesWrong : ChangeSpec := { name := "editReplaces", fn := fun _ => fun
  | [d1, d2, d3, d4, d5] => { results := [.lit (.bool false)], args := [d1, d2, d3, d4, d5] }
  | _ => none }
def EditReplacesWrongFalsely : Prop := editReplacesRow.holds Tryz.pinned (OpenSpec.ofChange editReplacesWrong)

/-- 'redpencillaw15.EditApplies': WHATEVER THE INPUT: true; the input reads as it did. -/
def editAppliesSpec : ChangeSpec := { name := "editApplies", fn := fun _ => fun
  | [d1, d2] => { results := [.lit (.bool true)], args := [d1, d2] }
  | _ => none }
def editAppliesRow : OpenClaim := { program := "ytmbndijbpgobeaagreat", sum := "c64e8a2fde3bde347d6020473c939cb4217af05997798920b780677f8fa96745", func := "redpencil/redpencillaw15.EditApplies", spec := "editApplies", inPlace := ["slices.overlaps[redpencil/omap.entry[redpencil/api.Dot, []redpencil/api.Node]]"], unfollowed := true, recurses := true, plainKeys := false, apart := false }
def EditAppliesSaid : Prop := editAppliesRow.holds Tryz.pinned (OpenSpec.ofChange editAppliesSpec)

/-- ITS FALSE NEIGHBOUR: 'it returns false'. Refute it at one input. -/
def editAppliesWrong : ChangeSpec := { name := "editApplies", fn := fun _ => fun
  | [d1, d2] => { results := [.lit (.bool false)], args := [d1, d2] }
  | _ => none }
def EditAppliesWrongFalsely : Prop := editAppliesRow.holds Tryz.pinned (OpenSpec.ofChange editAppliesWrong)

/-- 'redpencillaw15.EditLongs': WHATEVER THE INPUT: true; the input reads as it did. -/
def editLongsSpec : ChangeSpec := { name := "editLongs", fn := fun _ => fun
  | [d1, d2] => { results := [.lit (.bool true)], args := [d1, d2] }
  | _ => none }
def editLongsRow : OpenClaim := { program := "ytmbndijbpgobeaagreat", sum := "c64e8a2fde3bde347d6020473c939cb4217af05997798920b780677f8fa96745", func := "redpencil/redpencillaw15.EditLongs", spec := "editLongs", inPlace := ["slices.overlaps[redpencil/omap.entry[redpencil/api.Dot, []redpencil/api.Node]]"], unfollowed := true, recurses := true, plainKeys := false, apart := false }
def EditLongsSaid : Prop := editLongsRow.holds Tryz.pinned (OpenSpec.ofChange editLongsSpec)

/-- ITS FALSE NEIGHBOUR: 'it returns false'. Refute it at one input. -/
def editLongsWrong : ChangeSpec := { name := "editLongs", fn := fun _ => fun
  | [d1, d2] => { results := [.lit (.bool false)], args := [d1, d2] }
  | _ => none }
def EditLongsWrongFalsely : Prop := editLongsRow.holds Tryz.pinned (OpenSpec.ofChange editLongsWrong)

/-- 'redpencillaw15.EditPlays': WHATEVER THE INPUT: true; the input reads as it did. -/
def editPlaysSpec : ChangeSpec := { name := "editPlays", fn := fun _ => fun
  | [d] => { results := [.lit (.bool true)], args := [d] }
  | _ => none }
def editPlaysRow : OpenClaim := { program := "ytmbndijbpgobeaagreat", sum := "c64e8a2fde3bde347d6020473c939cb4217af05997798920b780677f8fa96745", func := "redpencil/redpencillaw15.EditPlays", spec := "editPlays", inPlace := ["slices.overlaps[redpencil/omap.entry[redpencil/api.Dot, []redpencil/api.Node]]"], unfollowed := true, recurses := true, plainKeys := false, apart := false }
def EditPlaysSaid : Prop := editPlaysRow.holds Tryz.pinned (OpenSpec.ofChange editPlaysSpec)

/-- ITS FALSE NEIGHBOUR: 'it returns false'. Refute it at one input. -/
def editPlaysWrong : ChangeSpec := { name := "editPlays", fn := fun _ => fun
  | [d] => { results := [.lit (.bool false)], args := [d] }
  | _ => none }
def EditPlaysWrongFalsely : Prop := editPlaysRow.holds Tryz.pinned (OpenSpec.ofChange editPlaysWrong)

/-- 'redpencillaw15.EditHolds': WHATEVER THE INPUT: true; the input reads as it did. -/
def editHoldsSpec : ChangeSpec := { name := "editHolds", fn := fun _ => fun
  | [d1, d2, d3] => { results := [.lit (.bool true)], args := [d1, d2, d3] }
  | _ => none }
def editHoldsRow : OpenClaim := { program := "ytmbndijbpgobeaagreat", sum := "c64e8a2fde3bde347d6020473c939cb4217af05997798920b780677f8fa96745", func := "redpencil/redpencillaw15.EditHolds", spec := "editHolds", inPlace := ["slices.overlaps[redpencil/omap.entry[redpencil/api.Dot, []redpencil/api.Node]]"], unfollowed := true, recurses := true, plainKeys := false, apart := false }
def EditHoldsSaid : Prop := editHoldsRow.holds Tryz.pinned (OpenSpec.ofChange editHoldsSpec)

/-- ITS FALSE NEIGHBOUR: 'it returns false'. Refute it at one input. -/
def editHoldsWrong : ChangeSpec := { name := "editHolds", fn := fun _ => fun
  | [d1, d2, d3] => { results := [.lit (.bool false)], args := [d1, d2, d3] }
  | _ => none }
def EditHoldsWrongFalsely : Prop := editHoldsRow.holds Tryz.pinned (OpenSpec.ofChange editHoldsWrong)

/- THE SECOND FORM. 'bulk': how many values and letters a reading holds, each counted each time it is reached (what is shared counts as often as it is met; a slice's spare places count too). A statement '..UptoSaid' is the law's where the arguments, and the package variables that the reading takes, are together of bulk at most 1048576: NARROWER than '..Said'. Prove '..Said' where nothing that the law and all that it calls make is longer than what came in: it says more and counts as full. Else prove '..UptoSaid'. A law counts once. -/
mutual
def uptoBulk {H : Type} : DataW H → Nat
  | .lit (.string bytes) => bytes.length + 1
  | .lit _ => 1
  | .nil => 1
  | .ptr d => uptoBulk d + 1
  | .slice elems spare => uptoBulkAll elems + uptoBulkAll spare + 1
  | .agg parts => uptoBulkAll parts + 1
  | .iface _ d => uptoBulk d + 1
  | .map entries => uptoBulkEntries entries + 1
  | .held _ => 1
def uptoBulkAll {H : Type} : List (DataW H) → Nat
  | [] => 0
  | d :: r => uptoBulk d + uptoBulkAll r
def uptoBulkEntries {H : Type} : List (Lit × DataW H) → Nat
  | [] => 0
  | x :: r => uptoBulkEntry x + uptoBulkEntries r
def uptoBulkEntry {H : Type} : Lit × DataW H → Nat
  | (.string bytes, d) => bytes.length + uptoBulk d + 1
  | (_, d) => uptoBulk d + 1
 end
def uptoSmall : (H : Type) → List (DataW H) → Bool := fun _ ds => decide (uptoBulkAll ds ≤ 1048576)
def OpenSpec.upto (s : _root_.Go.ChangeSpec) : _root_.Go.OpenSpec := { _root_.Go.OpenSpec.ofChange s with cond := some uptoSmall }

/-- 'redpencillaw15.EditInserts', WHERE WHAT IT READS IS OF BULK AT MOST 1048576: true; the input reads as it did. -/
def editInsertsUptoRow : OpenClaim := { program := "ytmbndijbpgobeaagreat", sum := "c64e8a2fde3bde347d6020473c939cb4217af05997798920b780677f8fa96745", func := "redpencil/redpencillaw15.EditInserts", spec := "editInserts", inPlace := ["slices.overlaps[redpencil/omap.entry[redpencil/api.Dot, []redpencil/api.Node]]"], unfollowed := true, recurses := true, plainKeys := false, apart := false, narrowed := true }
def EditInsertsUptoSaid : Prop := editInsertsUptoRow.holds Tryz.pinned (OpenSpec.upto editInsertsSpec)

/-- 'redpencillaw15.EditDeletes', WHERE WHAT IT READS IS OF BULK AT MOST 1048576: true; the input reads as it did. -/
def editDeletesUptoRow : OpenClaim := { program := "ytmbndijbpgobeaagreat", sum := "c64e8a2fde3bde347d6020473c939cb4217af05997798920b780677f8fa96745", func := "redpencil/redpencillaw15.EditDeletes", spec := "editDeletes", inPlace := ["slices.overlaps[redpencil/omap.entry[redpencil/api.Dot, []redpencil/api.Node]]"], unfollowed := true, recurses := true, plainKeys := false, apart := false, narrowed := true }
def EditDeletesUptoSaid : Prop := editDeletesUptoRow.holds Tryz.pinned (OpenSpec.upto editDeletesSpec)

/-- 'redpencillaw15.EditReplaces', WHERE WHAT IT READS IS OF BULK AT MOST 1048576: true; the input reads as it did. -/
def editReplacesUptoRow : OpenClaim := { program := "ytmbndijbpgobeaagreat", sum := "c64e8a2fde3bde347d6020473c939cb4217af05997798920b780677f8fa96745", func := "redpencil/redpencillaw15.EditReplaces", spec := "editReplaces", inPlace := ["slices.overlaps[redpencil/omap.entry[redpencil/api.Dot, []redpencil/api.Node]]"], unfollowed := true, recurses := true, plainKeys := false, apart := false, narrowed := true }
def EditReplacesUptoSaid : Prop := editReplacesUptoRow.holds Tryz.pinned (OpenSpec.upto editReplacesSpec)

/-- 'redpencillaw15.EditApplies', WHERE WHAT IT READS IS OF BULK AT MOST 1048576: true; the input reads as it did. -/
def editAppliesUptoRow : OpenClaim := { program := "ytmbndijbpgobeaagreat", sum := "c64e8a2fde3bde347d6020473c939cb4217af05997798920b780677f8fa96745", func := "redpencil/redpencillaw15.EditApplies", spec := "editApplies", inPlace := ["slices.overlaps[redpencil/omap.entry[redpencil/api.Dot, []redpencil/api.Node]]"], unfollowed := true, recurses := true, plainKeys := false, apart := false, narrowed := true }
def EditAppliesUptoSaid : Prop := editAppliesUptoRow.holds Tryz.pinned (OpenSpec.upto editAppliesSpec)

/-- 'redpencillaw15.EditLongs', WHERE WHAT IT READS IS OF BULK AT MOST 1048576: true; the input reads as it did. -/
def editLongsUptoRow : OpenClaim := { program := "ytmbndijbpgobeaagreat", sum := "c64e8a2fde3bde347d6020473c939cb4217af05997798920b780677f8fa96745", func := "redpencil/redpencillaw15.EditLongs", spec := "editLongs", inPlace := ["slices.overlaps[redpencil/omap.entry[redpencil/api.Dot, []redpencil/api.Node]]"], unfollowed := true, recurses := true, plainKeys := false, apart := false, narrowed := true }
def EditLongsUptoSaid : Prop := editLongsUptoRow.holds Tryz.pinned (OpenSpec.upto editLongsSpec)

/-- 'redpencillaw15.EditPlays', WHERE WHAT IT READS IS OF BULK AT MOST 1048576: true; the input reads as it did. -/
def editPlaysUptoRow : OpenClaim := { program := "ytmbndijbpgobeaagreat", sum := "c64e8a2fde3bde347d6020473c939cb4217af05997798920b780677f8fa96745", func := "redpencil/redpencillaw15.EditPlays", spec := "editPlays", inPlace := ["slices.overlaps[redpencil/omap.entry[redpencil/api.Dot, []redpencil/api.Node]]"], unfollowed := true, recurses := true, plainKeys := false, apart := false, narrowed := true }
def EditPlaysUptoSaid : Prop := editPlaysUptoRow.holds Tryz.pinned (OpenSpec.upto editPlaysSpec)

/-- 'redpencillaw15.EditHolds', WHERE WHAT IT READS IS OF BULK AT MOST 1048576: true; the input reads as it did. -/
def editHoldsUptoRow : OpenClaim := { program := "ytmbndijbpgobeaagreat", sum := "c64e8a2fde3bde347d6020473c939cb4217af05997798920b780677f8fa96745", func := "redpencil/redpencillaw15.EditHolds", spec := "editHolds", inPlace := ["slices.overlaps[redpencil/omap.entry[redpencil/api.Dot, []redpencil/api.Node]]"], unfollowed := true, recurses := true, plainKeys := false, apart := false, narrowed := true }
def EditHoldsUptoSaid : Prop := editHoldsUptoRow.holds Tryz.pinned (OpenSpec.upto editHoldsSpec)

end Rows
end Go.Proofs.YtmbndijbpgobeaaGreat
