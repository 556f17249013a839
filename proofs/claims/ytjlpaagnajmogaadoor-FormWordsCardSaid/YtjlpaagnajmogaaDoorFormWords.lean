/-
  The walk of FormWords: it returns true for any flaw, where the words lie as their initialiser lays them.
-/
import Derived.Test.YtjlpaagnajmogaaDoorKnown
namespace Go.Proofs.YtjlpaagnajmogaaDoor.PForm
open Go.RowKit Go.Proofs.YtjlpaagnajmogaaDoorW.PrintWords Go.Proofs.YtjlpaagnajmogaaDoorW.PrintLast Go.Proofs.YtjlpaagnajmogaaDoorW.PrintMore
set_option linter.unusedVariables false
set_option linter.unusedSimpArgs false
open Go.Shelf
attribute [local go_sem] Oper.semAt_some
/-! ### FormWords -/
theorem word_is (x : Int) : redpencilref13_Word.f x = some (wordOf x) := by
  unfold redpencilref13_Word.f wordOf
  by_cases h0 : x = 0
  · subst h0; rfl
  by_cases h1 : x = 1
  · subst h1; rfl
  by_cases h2 : x = 2
  · subst h2; rfl
  by_cases h3 : x = 3
  · subst h3; rfl
  by_cases h4 : x = 4
  · subst h4; rfl
  rw [if_neg h0, if_neg h1, if_neg h2, if_neg h3, if_neg h4]
  by_cases h5 : x < 0
  · rw [if_pos h5]
  · rw [if_neg h5, if_pos (by omega)]
set_option maxHeartbeats 1000000 in
set_option maxRecDepth 100000 in
theorem FormWords.walk (x : Int) (w : World) (hw : WordsAt w) : Calls Tryd.prog 5 #[.int .i64 x] w fun e w' => e = .returned (.bool true) ∧ Below w.heap.size w w' := by
  have HW := Aside0.mk hw
  clear hw
  obtain ⟨s, Hs⟩ : ∃ s, Aside0 (wordOf x = s) := ⟨_, ⟨rfl⟩⟩
  go_enter Tryd.func5, Tryd.ntmps5
  go_wp2_with fail
  refine (Word.walk x _ HW.out).mono ?_
  rintro e W1 ⟨rfl, hd⟩
  have HB := Aside0.mk hd.below
  clear hd
  rw [Hs.out]
  go_wp2_with fail
  refine (redpencilref13_Word.calls x s _ (by rw [word_is, Hs.out])).mono ?_
  rintro e W2 ⟨rfl, hd⟩
  have HB := Aside0.mk (below_more HB.out hd.below)
  clear hd
  go_wp2_with fail
  refine (known.walk _ (HW.out.below HB.out)).mono ?_
  rintro e W3 ⟨rfl, hd⟩
  have HB := Aside0.mk (below_more HB.out hd)
  clear hd
  go_wp2_with fail
  go_ret
  exact ⟨rfl, HB.out⟩

end Go.Proofs.YtjlpaagnajmogaaDoor.PForm
