/-
  NARROWER THAN 'FOR EVERY INPUT', by the rows' own cells (each row's printed sentence says how): FormFaults: laid · FormWholes: laid · FormWords: laid · FormChains: laid · IndexHolds: laid.
  DERIVED. THE GIVEN ROWS OF THIS SEAT. 5 by the template 'for every input the law returns true; each argument reads behind the call as it read before'; 0 by the template 'total and deterministic' (their statements: YtjlpaagnajmogaaDoorTotals.lean).
  GIVEN WITH THE SEED: the statements are not yours to turn. If you find one false, say at which input.
  Laid BY PROGRAM, IN A SANDBOX (cutbox-rows.mjs): the forced cells as the released guide's own fill.sh prints them over the translation 329727b09da886c8… (all of the seat's roots in one cut). By AI agents, Wed Nov 11 2026. No macro, syntax, notation, axiom, sorry.
-/
import Derived.Test.YtjlpaagnajmogaaDoorChecked
import GoSem.PinnedTables
import GoSem.Claim
import GoSem.ClaimJoined
import GoSem.ClaimMapViews
import Derived.JoinedTies
import Derived.KernelRfl
namespace Go.Proofs.YtjlpaagnajmogaaDoor
/- THE CELL 'sum', in the pinned program and in every row, IS THE sha256 OF THE DUMP (.gsa) THAT YtjlpaagnajmogaaDoorProg.lean LOADS. Nothing in Lean hashes anything: it is a label: what it is worth is what the hold of that sum in a sandbox is worth. -/
noncomputable def Tryd.pinned : Pinned := { name := "ytjlpaagnajmogaadoor", sum := "329727b09da886c8aa770fccf41cf55bd2405bf08d1874f6b581095b2dff900a", checked := Tryd.checked }
namespace Rows
def none {H : Type} : Left H := { results := [], args := [] }

/- WHAT THE LISTED PACKAGE-LEVEL VARIABLES READ AS WHEN THE CALL BEGINS. Each datum BY PROGRAM (the guide's laid-datum.mjs) off the statement by which the dump's own 'gosem.cut.vars' lays the variable. In a bare row this is a premise. The card (YtjlpaagnajmogaaDoorCards.lean) ties it to the program's text. -/
def laid_redpencil_shape_words {H : Type} : DataW H := .agg [.lit (.string [110, 111, 110, 101]), .lit (.string [110, 111, 100, 101]), .lit (.string [111, 114, 100, 101, 114]), .lit (.string [112, 97, 114, 101, 110, 116]), .lit (.string [116, 105, 109, 101])]
def laid_unicode_utf8_acceptRanges {H : Type} : DataW H := .agg [.agg [.lit (.int .u8 128), .lit (.int .u8 191)], .agg [.lit (.int .u8 160), .lit (.int .u8 191)], .agg [.lit (.int .u8 128), .lit (.int .u8 159)], .agg [.lit (.int .u8 144), .lit (.int .u8 191)], .agg [.lit (.int .u8 128), .lit (.int .u8 143)], .agg [.lit (.int .u8 0), .lit (.int .u8 0)], .agg [.lit (.int .u8 0), .lit (.int .u8 0)], .agg [.lit (.int .u8 0), .lit (.int .u8 0)], .agg [.lit (.int .u8 0), .lit (.int .u8 0)], .agg [.lit (.int .u8 0), .lit (.int .u8 0)], .agg [.lit (.int .u8 0), .lit (.int .u8 0)], .agg [.lit (.int .u8 0), .lit (.int .u8 0)], .agg [.lit (.int .u8 0), .lit (.int .u8 0)], .agg [.lit (.int .u8 0), .lit (.int .u8 0)], .agg [.lit (.int .u8 0), .lit (.int .u8 0)], .agg [.lit (.int .u8 0), .lit (.int .u8 0)]]
/-- One of Go's own tables, pinned by name: the form's constant. -/
def laid_unicode_utf8_first : DataW Unit := Go.Pinned.utf8First

/-- 'redpencillaw13.FormFaults': WHATEVER THE INPUT: true; the input reads as it did. -/
def formFaultsSpec : ChangeSpec := { name := "formFaults", fn := fun _ => fun
  | [d] => { results := [.lit (.bool true)], args := [d] }
  | _ => none }
def formFaultsRow : OpenClaim := { program := "ytjlpaagnajmogaadoor", sum := "329727b09da886c8aa770fccf41cf55bd2405bf08d1874f6b581095b2dff900a", func := "redpencil/redpencillaw13.FormFaults", spec := "formFaults", unfollowed := true, recurses := true, named := ["redpencil/shape.words"], plainKeys := false, apart := false, laid := [("redpencil/shape.words", laid_redpencil_shape_words)] }
def FormFaultsSaid : Prop := formFaultsRow.holds Tryd.pinned (OpenSpec.ofChange formFaultsSpec)

/-- ITS FALSE NEIGHBOUR: 'it returns false'. Refute it at one input. -/
def formFaultsWrong : ChangeSpec := { name := "formFaults", fn := fun _ => fun
  | [d] => { results := [.lit (.bool false)], args := [d] }
  | _ => none }
def FormFaultsWrongFalsely : Prop := formFaultsRow.holds Tryd.pinned (OpenSpec.ofChange formFaultsWrong)

/-- 'redpencillaw13.FormWholes': WHATEVER THE INPUT: true; the input reads as it did. -/
def formWholesSpec : ChangeSpec := { name := "formWholes", fn := fun _ => fun
  | [d] => { results := [.lit (.bool true)], args := [d] }
  | _ => none }
def formWholesRow : OpenClaim := { program := "ytjlpaagnajmogaadoor", sum := "329727b09da886c8aa770fccf41cf55bd2405bf08d1874f6b581095b2dff900a", func := "redpencil/redpencillaw13.FormWholes", spec := "formWholes", unfollowed := true, recurses := true, named := ["redpencil/shape.words"], plainKeys := false, apart := false, laid := [("redpencil/shape.words", laid_redpencil_shape_words)] }
def FormWholesSaid : Prop := formWholesRow.holds Tryd.pinned (OpenSpec.ofChange formWholesSpec)

/-- ITS FALSE NEIGHBOUR: 'it returns false'. Refute it at one input. -/
def formWholesWrong : ChangeSpec := { name := "formWholes", fn := fun _ => fun
  | [d] => { results := [.lit (.bool false)], args := [d] }
  | _ => none }
def FormWholesWrongFalsely : Prop := formWholesRow.holds Tryd.pinned (OpenSpec.ofChange formWholesWrong)

/-- 'redpencillaw13.FormWords': WHATEVER THE INPUT: true; the input reads as it did. -/
def formWordsSpec : ChangeSpec := { name := "formWords", fn := fun _ => fun
  | [d] => { results := [.lit (.bool true)], args := [d] }
  | _ => none }
def formWordsRow : OpenClaim := { program := "ytjlpaagnajmogaadoor", sum := "329727b09da886c8aa770fccf41cf55bd2405bf08d1874f6b581095b2dff900a", func := "redpencil/redpencillaw13.FormWords", spec := "formWords", unfollowed := true, recurses := true, named := ["redpencil/shape.words"], plainKeys := false, apart := false, laid := [("redpencil/shape.words", laid_redpencil_shape_words)] }
def FormWordsSaid : Prop := formWordsRow.holds Tryd.pinned (OpenSpec.ofChange formWordsSpec)

/-- ITS FALSE NEIGHBOUR: 'it returns false'. Refute it at one input. -/
def formWordsWrong : ChangeSpec := { name := "formWords", fn := fun _ => fun
  | [d] => { results := [.lit (.bool false)], args := [d] }
  | _ => none }
def FormWordsWrongFalsely : Prop := formWordsRow.holds Tryd.pinned (OpenSpec.ofChange formWordsWrong)

/-- 'redpencillaw13.FormChains': WHATEVER THE INPUT: true; the input reads as it did. -/
def formChainsSpec : ChangeSpec := { name := "formChains", fn := fun _ => fun
  | [d1, d2, d3] => { results := [.lit (.bool true)], args := [d1, d2, d3] }
  | _ => none }
def formChainsRow : OpenClaim := { program := "ytjlpaagnajmogaadoor", sum := "329727b09da886c8aa770fccf41cf55bd2405bf08d1874f6b581095b2dff900a", func := "redpencil/redpencillaw13.FormChains", spec := "formChains", unfollowed := true, recurses := true, named := ["redpencil/shape.words"], plainKeys := false, apart := false, laid := [("redpencil/shape.words", laid_redpencil_shape_words)] }
def FormChainsSaid : Prop := formChainsRow.holds Tryd.pinned (OpenSpec.ofChange formChainsSpec)

/-- ITS FALSE NEIGHBOUR: 'it returns false'. Refute it at one input. -/
def formChainsWrong : ChangeSpec := { name := "formChains", fn := fun _ => fun
  | [d1, d2, d3] => { results := [.lit (.bool false)], args := [d1, d2, d3] }
  | _ => none }
def FormChainsWrongFalsely : Prop := formChainsRow.holds Tryd.pinned (OpenSpec.ofChange formChainsWrong)

/-- 'redpencillaw12.IndexHolds': WHATEVER THE INPUT: true; the input reads as it did. -/
def indexHoldsSpec : ChangeSpec := { name := "indexHolds", fn := fun _ => fun
  | [d1, d2] => { results := [.lit (.bool true)], args := [d1, d2] }
  | _ => none }
def indexHoldsRow : OpenClaim := { program := "ytjlpaagnajmogaadoor", sum := "329727b09da886c8aa770fccf41cf55bd2405bf08d1874f6b581095b2dff900a", func := "redpencil/redpencillaw12.IndexHolds", spec := "indexHolds", inPlace := ["slices.overlaps[redpencil/omap.entry[redpencil/api.Dot, []redpencil/api.Node]]"], unfollowed := true, recurses := true, named := ["unicode/utf8.first", "unicode/utf8.acceptRanges"], plainKeys := false, apart := false, laid := [("unicode/utf8.acceptRanges", laid_unicode_utf8_acceptRanges), ("unicode/utf8.first", laid_unicode_utf8_first)] }
def IndexHoldsSaid : Prop := indexHoldsRow.holds Tryd.pinned (OpenSpec.ofChange indexHoldsSpec)

/-- ITS FALSE NEIGHBOUR: 'it returns false'. Refute it at one input. -/
def indexHoldsWrong : ChangeSpec := { name := "indexHolds", fn := fun _ => fun
  | [d1, d2] => { results := [.lit (.bool false)], args := [d1, d2] }
  | _ => none }
def IndexHoldsWrongFalsely : Prop := indexHoldsRow.holds Tryd.pinned (OpenSpec.ofChange indexHoldsWrong)

/- THE SECOND FORM. 'bulk': how many values and letters a reading holds, each counted each time it is reached (what is shared counts as often as it is met; a slice's spare places count too). A statement '..UptoSaid' is the law's where the arguments, and the package variables that the reading takes, are together of bulk at most 1048576: NARROWER than '..Said'. Prove '..Said' where nothing that the law and all that it calls make is longer than what came in: it says more and counts as full. Else prove '..UptoSaid'. A law counts once. -/
mutual
def uptoBulk {H : Type} : DataW H → Nat
  | .lit (.string bytes) => bytes.length + 1
  | .lit _ => 1
  | .nil => 1
  | .ptr d => uptoBulk d + 1
  | .slice elems spare => uptoBulkAll elems + uptoBulkAll spare + 1
  | .agg parts => uptoBulkAll parts + 1
  | .iface _ d => uptoBulk d + 1
  | .map entries => uptoBulkEntries entries + 1
  | .held _ => 1
def uptoBulkAll {H : Type} : List (DataW H) → Nat
  | [] => 0
  | d :: r => uptoBulk d + uptoBulkAll r
def uptoBulkEntries {H : Type} : List (Lit × DataW H) → Nat
  | [] => 0
  | x :: r => uptoBulkEntry x + uptoBulkEntries r
def uptoBulkEntry {H : Type} : Lit × DataW H → Nat
  | (.string bytes, d) => bytes.length + uptoBulk d + 1
  | (_, d) => uptoBulk d + 1
 end
def uptoSmall : (H : Type) → List (DataW H) → Bool := fun _ ds => decide (uptoBulkAll ds ≤ 1048576)
def OpenSpec.upto (s : _root_.Go.ChangeSpec) : _root_.Go.OpenSpec := { _root_.Go.OpenSpec.ofChange s with cond := some uptoSmall }

/-- 'redpencillaw13.FormFaults', WHERE WHAT IT READS IS OF BULK AT MOST 1048576: true; the input reads as it did. -/
def formFaultsUptoRow : OpenClaim := { program := "ytjlpaagnajmogaadoor", sum := "329727b09da886c8aa770fccf41cf55bd2405bf08d1874f6b581095b2dff900a", func := "redpencil/redpencillaw13.FormFaults", spec := "formFaults", unfollowed := true, recurses := true, named := ["redpencil/shape.words"], plainKeys := false, apart := false, laid := [("redpencil/shape.words", laid_redpencil_shape_words)], narrowed := true }
def FormFaultsUptoSaid : Prop := formFaultsUptoRow.holds Tryd.pinned (OpenSpec.upto formFaultsSpec)

/-- 'redpencillaw13.FormWholes', WHERE WHAT IT READS IS OF BULK AT MOST 1048576: true; the input reads as it did. -/
def formWholesUptoRow : OpenClaim := { program := "ytjlpaagnajmogaadoor", sum := "329727b09da886c8aa770fccf41cf55bd2405bf08d1874f6b581095b2dff900a", func := "redpencil/redpencillaw13.FormWholes", spec := "formWholes", unfollowed := true, recurses := true, named := ["redpencil/shape.words"], plainKeys := false, apart := false, laid := [("redpencil/shape.words", laid_redpencil_shape_words)], narrowed := true }
def FormWholesUptoSaid : Prop := formWholesUptoRow.holds Tryd.pinned (OpenSpec.upto formWholesSpec)

/-- 'redpencillaw13.FormWords', WHERE WHAT IT READS IS OF BULK AT MOST 1048576: true; the input reads as it did. -/
def formWordsUptoRow : OpenClaim := { program := "ytjlpaagnajmogaadoor", sum := "329727b09da886c8aa770fccf41cf55bd2405bf08d1874f6b581095b2dff900a", func := "redpencil/redpencillaw13.FormWords", spec := "formWords", unfollowed := true, recurses := true, named := ["redpencil/shape.words"], plainKeys := false, apart := false, laid := [("redpencil/shape.words", laid_redpencil_shape_words)], narrowed := true }
def FormWordsUptoSaid : Prop := formWordsUptoRow.holds Tryd.pinned (OpenSpec.upto formWordsSpec)

/-- 'redpencillaw13.FormChains', WHERE WHAT IT READS IS OF BULK AT MOST 1048576: true; the input reads as it did. -/
def formChainsUptoRow : OpenClaim := { program := "ytjlpaagnajmogaadoor", sum := "329727b09da886c8aa770fccf41cf55bd2405bf08d1874f6b581095b2dff900a", func := "redpencil/redpencillaw13.FormChains", spec := "formChains", unfollowed := true, recurses := true, named := ["redpencil/shape.words"], plainKeys := false, apart := false, laid := [("redpencil/shape.words", laid_redpencil_shape_words)], narrowed := true }
def FormChainsUptoSaid : Prop := formChainsUptoRow.holds Tryd.pinned (OpenSpec.upto formChainsSpec)

/-- 'redpencillaw12.IndexHolds', WHERE WHAT IT READS IS OF BULK AT MOST 1048576: true; the input reads as it did. -/
def indexHoldsUptoRow : OpenClaim := { program := "ytjlpaagnajmogaadoor", sum := "329727b09da886c8aa770fccf41cf55bd2405bf08d1874f6b581095b2dff900a", func := "redpencil/redpencillaw12.IndexHolds", spec := "indexHolds", inPlace := ["slices.overlaps[redpencil/omap.entry[redpencil/api.Dot, []redpencil/api.Node]]"], unfollowed := true, recurses := true, named := ["unicode/utf8.first", "unicode/utf8.acceptRanges"], plainKeys := false, apart := false, laid := [("unicode/utf8.acceptRanges", laid_unicode_utf8_acceptRanges), ("unicode/utf8.first", laid_unicode_utf8_first)], narrowed := true }
def IndexHoldsUptoSaid : Prop := indexHoldsUptoRow.holds Tryd.pinned (OpenSpec.upto indexHoldsSpec)

end Rows
end Go.Proofs.YtjlpaagnajmogaaDoor
