/-
  A store with a further node, the child of a reached one or of the root at a time greater than all others: it follows directly on its parent, and nothing else changes in the order; for every list of nodes, number and dot. Part 10 of 11.
-/
import Derived.Test.YtjlpaagnajmogaaGreatRI
section
namespace Go.Proofs.YtjlpaagnajmogaaGreat.PWalk
open Go.RowKit Go.Proofs.YtjlpaagnajmogaaGreatW.PrintWords Go.Proofs.YtjlpaagnajmogaaGreatW.PrintLast Go.Proofs.YtjlpaagnajmogaaGreatW.PrintMore
set_option linter.unusedVariables false
set_option linter.unusedSimpArgs false
def redpencillaw11_given.f  : Option ((List (S35))) := (redpencillaw11_at.f 1 1).bind fun bt159 => ((redpencillaw11_at.f 1 2).bind fun bt161 => ((redpencillaw11_at.f 1 1).bind fun bt163 => ((redpencillaw11_at.f 2 2).bind fun bt165 => ((redpencillaw11_at.f 1 1).bind fun bt167 => ((redpencillaw11_at.f 2 3).bind fun bt169 => ((redpencillaw11_at.f 1 2).bind fun bt171 => ((redpencillaw11_at.f 1 4).bind fun bt173 => ((redpencillaw11_at.f 3 4).bind fun bt175 => ((redpencillaw11_at.f 9 9).bind fun bt177 => ((redpencillaw11_at.f 3 5).bind fun bt179 => ((redpencillaw11_at.f 3 6).bind fun bt181 => ((redpencillaw11_at.f 3 6).bind fun bt183 => ((redpencillaw11_at.f 3 5).bind fun bt185 => (some (([(⟨(⟨bt159.1, bt159.2⟩ : S24), (⟨0, 0⟩ : S24), 1, 97⟩ : S35), (⟨(⟨bt161.1, bt161.2⟩ : S24), (⟨bt163.1, bt163.2⟩ : S24), 2, 98⟩ : S35), (⟨(⟨bt165.1, bt165.2⟩ : S24), (⟨bt167.1, bt167.2⟩ : S24), 2, 99⟩ : S35), (⟨(⟨bt169.1, bt169.2⟩ : S24), (⟨bt171.1, bt171.2⟩ : S24), 3, 100⟩ : S35), (⟨(⟨bt173.1, bt173.2⟩ : S24), (⟨0, 0⟩ : S24), 4, 101⟩ : S35), (⟨(⟨bt175.1, bt175.2⟩ : S24), (⟨bt177.1, bt177.2⟩ : S24), 1, 102⟩ : S35), (⟨(⟨bt179.1, bt179.2⟩ : S24), (⟨bt181.1, bt181.2⟩ : S24), 1, 103⟩ : S35), (⟨(⟨bt183.1, bt183.2⟩ : S24), (⟨bt185.1, bt185.2⟩ : S24), 1, 104⟩ : S35)] : List (S35)))))))))))))))))
def redpencillaw11_given.T2 : Bool × List (List Nat × List Nat) := (true, [([], []), ([], []), ([0, 1], [0, 1]), ([0], []), ([3], []), ([3, 4], [3, 4]), ([4], []), ([6], []), ([6, 7], [6, 7]), ([7], []), ([9], []), ([9, 10], [9, 10]), ([10], []), ([], []), ([12, 13], [12, 13]), ([12], []), ([15], []), ([15, 16], [15, 16]), ([16], []), ([18], []), ([18, 19], [18, 19]), ([19], []), ([21], []), ([21, 22], [21, 22]), ([2, 5, 8, 11, 14, 17, 20, 23], [2, 5, 8, 11, 14, 17, 20, 23]), ([24, 22, 0, 1, 2, 3, 4, 5, 6, 7, 8, 9, 10, 11, 12, 13, 14, 15, 16, 17, 18, 19, 20, 21, 22, 23, 24], [24])])
def redpencillaw11_given.B2 : List Nat := [0, 0, 3, 1, 9, 25, 25, 89, 217, 217, 729, 1753, 1753, 0, 14041, 5849, 38617, 104153, 104153, 366297, 890585, 890585, 2987737, 7182041, 16777215, 33554431]
theorem redpencillaw11_given.tab2 : rtab .any (opsOf Tryz.f62 2) = redpencillaw11_given.T2 := by kernel_rfl
theorem redpencillaw11_given.bits2 : waitsOk redpencillaw11_given.T2.2 redpencillaw11_given.B2 = true := by kernel_rfl
set_option maxHeartbeats 8000000 in
set_option maxRecDepth 100000 in
theorem redpencillaw11_given.calls  (r : List (S35)) (w : World) (h : redpencillaw11_given.f  = some r) :
  Calls Tryz.prog 62 #[] w fun e w' => ∃ v0_ : Value, e = .returned (v0_) ∧ Kd.R k35 35 w' w.heap.size (fun _ => True) v0_ r ∧ Below w.heap.size w w' := by
 have hu24 := Tryz.underlying24
 have hu35 := Tryz.underlying35
 have HB := Aside0.mk (Below.refl w.heap.size w)
 have H : ((redpencillaw11_at.f 1 1).bind fun bt159 => ((redpencillaw11_at.f 1 2).bind fun bt161 => ((redpencillaw11_at.f 1 1).bind fun bt163 => ((redpencillaw11_at.f 2 2).bind fun bt165 => ((redpencillaw11_at.f 1 1).bind fun bt167 => ((redpencillaw11_at.f 2 3).bind fun bt169 => ((redpencillaw11_at.f 1 2).bind fun bt171 => ((redpencillaw11_at.f 1 4).bind fun bt173 => ((redpencillaw11_at.f 3 4).bind fun bt175 => ((redpencillaw11_at.f 9 9).bind fun bt177 => ((redpencillaw11_at.f 3 5).bind fun bt179 => ((redpencillaw11_at.f 3 6).bind fun bt181 => ((redpencillaw11_at.f 3 6).bind fun bt183 => ((redpencillaw11_at.f 3 5).bind fun bt185 => (some (([(⟨(⟨bt159.1, bt159.2⟩ : S24), (⟨0, 0⟩ : S24), 1, 97⟩ : S35), (⟨(⟨bt161.1, bt161.2⟩ : S24), (⟨bt163.1, bt163.2⟩ : S24), 2, 98⟩ : S35), (⟨(⟨bt165.1, bt165.2⟩ : S24), (⟨bt167.1, bt167.2⟩ : S24), 2, 99⟩ : S35), (⟨(⟨bt169.1, bt169.2⟩ : S24), (⟨bt171.1, bt171.2⟩ : S24), 3, 100⟩ : S35), (⟨(⟨bt173.1, bt173.2⟩ : S24), (⟨0, 0⟩ : S24), 4, 101⟩ : S35), (⟨(⟨bt175.1, bt175.2⟩ : S24), (⟨bt177.1, bt177.2⟩ : S24), 1, 102⟩ : S35), (⟨(⟨bt179.1, bt179.2⟩ : S24), (⟨bt181.1, bt181.2⟩ : S24), 1, 103⟩ : S35), (⟨(⟨bt183.1, bt183.2⟩ : S24), (⟨bt185.1, bt185.2⟩ : S24), 1, 104⟩ : S35)] : List (S35)))))))))))))))))) = some r := h
 clear h
 replace H := Option.bind_eq_some_iff.mp H
 obtain ⟨⟨t159, t160⟩, A10, H⟩ := H
 replace H : ((redpencillaw11_at.f 1 2).bind fun bt161 => ((redpencillaw11_at.f 1 1).bind fun bt163 => ((redpencillaw11_at.f 2 2).bind fun bt165 => ((redpencillaw11_at.f 1 1).bind fun bt167 => ((redpencillaw11_at.f 2 3).bind fun bt169 => ((redpencillaw11_at.f 1 2).bind fun bt171 => ((redpencillaw11_at.f 1 4).bind fun bt173 => ((redpencillaw11_at.f 3 4).bind fun bt175 => ((redpencillaw11_at.f 9 9).bind fun bt177 => ((redpencillaw11_at.f 3 5).bind fun bt179 => ((redpencillaw11_at.f 3 6).bind fun bt181 => ((redpencillaw11_at.f 3 6).bind fun bt183 => ((redpencillaw11_at.f 3 5).bind fun bt185 => (some (([(⟨(⟨t159, t160⟩ : S24), (⟨0, 0⟩ : S24), 1, 97⟩ : S35), (⟨(⟨bt161.1, bt161.2⟩ : S24), (⟨bt163.1, bt163.2⟩ : S24), 2, 98⟩ : S35), (⟨(⟨bt165.1, bt165.2⟩ : S24), (⟨bt167.1, bt167.2⟩ : S24), 2, 99⟩ : S35), (⟨(⟨bt169.1, bt169.2⟩ : S24), (⟨bt171.1, bt171.2⟩ : S24), 3, 100⟩ : S35), (⟨(⟨bt173.1, bt173.2⟩ : S24), (⟨0, 0⟩ : S24), 4, 101⟩ : S35), (⟨(⟨bt175.1, bt175.2⟩ : S24), (⟨bt177.1, bt177.2⟩ : S24), 1, 102⟩ : S35), (⟨(⟨bt179.1, bt179.2⟩ : S24), (⟨bt181.1, bt181.2⟩ : S24), 1, 103⟩ : S35), (⟨(⟨bt183.1, bt183.2⟩ : S24), (⟨bt185.1, bt185.2⟩ : S24), 1, 104⟩ : S35)] : List (S35))))))))))))))))) = some r := H
 have A1 := Aside0.mk A10
 clear A10
 replace H := Option.bind_eq_some_iff.mp H
 obtain ⟨⟨t161, t162⟩, A20, H⟩ := H
 replace H : ((redpencillaw11_at.f 1 1).bind fun bt163 => ((redpencillaw11_at.f 2 2).bind fun bt165 => ((redpencillaw11_at.f 1 1).bind fun bt167 => ((redpencillaw11_at.f 2 3).bind fun bt169 => ((redpencillaw11_at.f 1 2).bind fun bt171 => ((redpencillaw11_at.f 1 4).bind fun bt173 => ((redpencillaw11_at.f 3 4).bind fun bt175 => ((redpencillaw11_at.f 9 9).bind fun bt177 => ((redpencillaw11_at.f 3 5).bind fun bt179 => ((redpencillaw11_at.f 3 6).bind fun bt181 => ((redpencillaw11_at.f 3 6).bind fun bt183 => ((redpencillaw11_at.f 3 5).bind fun bt185 => (some (([(⟨(⟨t159, t160⟩ : S24), (⟨0, 0⟩ : S24), 1, 97⟩ : S35), (⟨(⟨t161, t162⟩ : S24), (⟨bt163.1, bt163.2⟩ : S24), 2, 98⟩ : S35), (⟨(⟨bt165.1, bt165.2⟩ : S24), (⟨bt167.1, bt167.2⟩ : S24), 2, 99⟩ : S35), (⟨(⟨bt169.1, bt169.2⟩ : S24), (⟨bt171.1, bt171.2⟩ : S24), 3, 100⟩ : S35), (⟨(⟨bt173.1, bt173.2⟩ : S24), (⟨0, 0⟩ : S24), 4, 101⟩ : S35), (⟨(⟨bt175.1, bt175.2⟩ : S24), (⟨bt177.1, bt177.2⟩ : S24), 1, 102⟩ : S35), (⟨(⟨bt179.1, bt179.2⟩ : S24), (⟨bt181.1, bt181.2⟩ : S24), 1, 103⟩ : S35), (⟨(⟨bt183.1, bt183.2⟩ : S24), (⟨bt185.1, bt185.2⟩ : S24), 1, 104⟩ : S35)] : List (S35)))))))))))))))) = some r := H
 have A2 := Aside0.mk A20
 clear A20
 replace H := Option.bind_eq_some_iff.mp H
 obtain ⟨⟨t163, t164⟩, A30, H⟩ := H
 replace H : ((redpencillaw11_at.f 2 2).bind fun bt165 => ((redpencillaw11_at.f 1 1).bind fun bt167 => ((redpencillaw11_at.f 2 3).bind fun bt169 => ((redpencillaw11_at.f 1 2).bind fun bt171 => ((redpencillaw11_at.f 1 4).bind fun bt173 => ((redpencillaw11_at.f 3 4).bind fun bt175 => ((redpencillaw11_at.f 9 9).bind fun bt177 => ((redpencillaw11_at.f 3 5).bind fun bt179 => ((redpencillaw11_at.f 3 6).bind fun bt181 => ((redpencillaw11_at.f 3 6).bind fun bt183 => ((redpencillaw11_at.f 3 5).bind fun bt185 => (some (([(⟨(⟨t159, t160⟩ : S24), (⟨0, 0⟩ : S24), 1, 97⟩ : S35), (⟨(⟨t161, t162⟩ : S24), (⟨t163, t164⟩ : S24), 2, 98⟩ : S35), (⟨(⟨bt165.1, bt165.2⟩ : S24), (⟨bt167.1, bt167.2⟩ : S24), 2, 99⟩ : S35), (⟨(⟨bt169.1, bt169.2⟩ : S24), (⟨bt171.1, bt171.2⟩ : S24), 3, 100⟩ : S35), (⟨(⟨bt173.1, bt173.2⟩ : S24), (⟨0, 0⟩ : S24), 4, 101⟩ : S35), (⟨(⟨bt175.1, bt175.2⟩ : S24), (⟨bt177.1, bt177.2⟩ : S24), 1, 102⟩ : S35), (⟨(⟨bt179.1, bt179.2⟩ : S24), (⟨bt181.1, bt181.2⟩ : S24), 1, 103⟩ : S35), (⟨(⟨bt183.1, bt183.2⟩ : S24), (⟨bt185.1, bt185.2⟩ : S24), 1, 104⟩ : S35)] : List (S35))))))))))))))) = some r := H
 have A3 := Aside0.mk A30
 clear A30
 replace H := Option.bind_eq_some_iff.mp H
 obtain ⟨⟨t165, t166⟩, A40, H⟩ := H
 replace H : ((redpencillaw11_at.f 1 1).bind fun bt167 => ((redpencillaw11_at.f 2 3).bind fun bt169 => ((redpencillaw11_at.f 1 2).bind fun bt171 => ((redpencillaw11_at.f 1 4).bind fun bt173 => ((redpencillaw11_at.f 3 4).bind fun bt175 => ((redpencillaw11_at.f 9 9).bind fun bt177 => ((redpencillaw11_at.f 3 5).bind fun bt179 => ((redpencillaw11_at.f 3 6).bind fun bt181 => ((redpencillaw11_at.f 3 6).bind fun bt183 => ((redpencillaw11_at.f 3 5).bind fun bt185 => (some (([(⟨(⟨t159, t160⟩ : S24), (⟨0, 0⟩ : S24), 1, 97⟩ : S35), (⟨(⟨t161, t162⟩ : S24), (⟨t163, t164⟩ : S24), 2, 98⟩ : S35), (⟨(⟨t165, t166⟩ : S24), (⟨bt167.1, bt167.2⟩ : S24), 2, 99⟩ : S35), (⟨(⟨bt169.1, bt169.2⟩ : S24), (⟨bt171.1, bt171.2⟩ : S24), 3, 100⟩ : S35), (⟨(⟨bt173.1, bt173.2⟩ : S24), (⟨0, 0⟩ : S24), 4, 101⟩ : S35), (⟨(⟨bt175.1, bt175.2⟩ : S24), (⟨bt177.1, bt177.2⟩ : S24), 1, 102⟩ : S35), (⟨(⟨bt179.1, bt179.2⟩ : S24), (⟨bt181.1, bt181.2⟩ : S24), 1, 103⟩ : S35), (⟨(⟨bt183.1, bt183.2⟩ : S24), (⟨bt185.1, bt185.2⟩ : S24), 1, 104⟩ : S35)] : List (S35)))))))))))))) = some r := H
 have A4 := Aside0.mk A40
 clear A40
 replace H := Option.bind_eq_some_iff.mp H
 obtain ⟨⟨t167, t168⟩, A50, H⟩ := H
 replace H : ((redpencillaw11_at.f 2 3).bind fun bt169 => ((redpencillaw11_at.f 1 2).bind fun bt171 => ((redpencillaw11_at.f 1 4).bind fun bt173 => ((redpencillaw11_at.f 3 4).bind fun bt175 => ((redpencillaw11_at.f 9 9).bind fun bt177 => ((redpencillaw11_at.f 3 5).bind fun bt179 => ((redpencillaw11_at.f 3 6).bind fun bt181 => ((redpencillaw11_at.f 3 6).bind fun bt183 => ((redpencillaw11_at.f 3 5).bind fun bt185 => (some (([(⟨(⟨t159, t160⟩ : S24), (⟨0, 0⟩ : S24), 1, 97⟩ : S35), (⟨(⟨t161, t162⟩ : S24), (⟨t163, t164⟩ : S24), 2, 98⟩ : S35), (⟨(⟨t165, t166⟩ : S24), (⟨t167, t168⟩ : S24), 2, 99⟩ : S35), (⟨(⟨bt169.1, bt169.2⟩ : S24), (⟨bt171.1, bt171.2⟩ : S24), 3, 100⟩ : S35), (⟨(⟨bt173.1, bt173.2⟩ : S24), (⟨0, 0⟩ : S24), 4, 101⟩ : S35), (⟨(⟨bt175.1, bt175.2⟩ : S24), (⟨bt177.1, bt177.2⟩ : S24), 1, 102⟩ : S35), (⟨(⟨bt179.1, bt179.2⟩ : S24), (⟨bt181.1, bt181.2⟩ : S24), 1, 103⟩ : S35), (⟨(⟨bt183.1, bt183.2⟩ : S24), (⟨bt185.1, bt185.2⟩ : S24), 1, 104⟩ : S35)] : List (S35))))))))))))) = some r := H
 have A5 := Aside0.mk A50
 clear A50
 replace H := Option.bind_eq_some_iff.mp H
 obtain ⟨⟨t169, t170⟩, A60, H⟩ := H
 replace H : ((redpencillaw11_at.f 1 2).bind fun bt171 => ((redpencillaw11_at.f 1 4).bind fun bt173 => ((redpencillaw11_at.f 3 4).bind fun bt175 => ((redpencillaw11_at.f 9 9).bind fun bt177 => ((redpencillaw11_at.f 3 5).bind fun bt179 => ((redpencillaw11_at.f 3 6).bind fun bt181 => ((redpencillaw11_at.f 3 6).bind fun bt183 => ((redpencillaw11_at.f 3 5).bind fun bt185 => (some (([(⟨(⟨t159, t160⟩ : S24), (⟨0, 0⟩ : S24), 1, 97⟩ : S35), (⟨(⟨t161, t162⟩ : S24), (⟨t163, t164⟩ : S24), 2, 98⟩ : S35), (⟨(⟨t165, t166⟩ : S24), (⟨t167, t168⟩ : S24), 2, 99⟩ : S35), (⟨(⟨t169, t170⟩ : S24), (⟨bt171.1, bt171.2⟩ : S24), 3, 100⟩ : S35), (⟨(⟨bt173.1, bt173.2⟩ : S24), (⟨0, 0⟩ : S24), 4, 101⟩ : S35), (⟨(⟨bt175.1, bt175.2⟩ : S24), (⟨bt177.1, bt177.2⟩ : S24), 1, 102⟩ : S35), (⟨(⟨bt179.1, bt179.2⟩ : S24), (⟨bt181.1, bt181.2⟩ : S24), 1, 103⟩ : S35), (⟨(⟨bt183.1, bt183.2⟩ : S24), (⟨bt185.1, bt185.2⟩ : S24), 1, 104⟩ : S35)] : List (S35)))))))))))) = some r := H
 have A6 := Aside0.mk A60
 clear A60
 replace H := Option.bind_eq_some_iff.mp H
 obtain ⟨⟨t171, t172⟩, A70, H⟩ := H
 replace H : ((redpencillaw11_at.f 1 4).bind fun bt173 => ((redpencillaw11_at.f 3 4).bind fun bt175 => ((redpencillaw11_at.f 9 9).bind fun bt177 => ((redpencillaw11_at.f 3 5).bind fun bt179 => ((redpencillaw11_at.f 3 6).bind fun bt181 => ((redpencillaw11_at.f 3 6).bind fun bt183 => ((redpencillaw11_at.f 3 5).bind fun bt185 => (some (([(⟨(⟨t159, t160⟩ : S24), (⟨0, 0⟩ : S24), 1, 97⟩ : S35), (⟨(⟨t161, t162⟩ : S24), (⟨t163, t164⟩ : S24), 2, 98⟩ : S35), (⟨(⟨t165, t166⟩ : S24), (⟨t167, t168⟩ : S24), 2, 99⟩ : S35), (⟨(⟨t169, t170⟩ : S24), (⟨t171, t172⟩ : S24), 3, 100⟩ : S35), (⟨(⟨bt173.1, bt173.2⟩ : S24), (⟨0, 0⟩ : S24), 4, 101⟩ : S35), (⟨(⟨bt175.1, bt175.2⟩ : S24), (⟨bt177.1, bt177.2⟩ : S24), 1, 102⟩ : S35), (⟨(⟨bt179.1, bt179.2⟩ : S24), (⟨bt181.1, bt181.2⟩ : S24), 1, 103⟩ : S35), (⟨(⟨bt183.1, bt183.2⟩ : S24), (⟨bt185.1, bt185.2⟩ : S24), 1, 104⟩ : S35)] : List (S35))))))))))) = some r := H
 have A7 := Aside0.mk A70
 clear A70
 replace H := Option.bind_eq_some_iff.mp H
 obtain ⟨⟨t173, t174⟩, A80, H⟩ := H
 replace H : ((redpencillaw11_at.f 3 4).bind fun bt175 => ((redpencillaw11_at.f 9 9).bind fun bt177 => ((redpencillaw11_at.f 3 5).bind fun bt179 => ((redpencillaw11_at.f 3 6).bind fun bt181 => ((redpencillaw11_at.f 3 6).bind fun bt183 => ((redpencillaw11_at.f 3 5).bind fun bt185 => (some (([(⟨(⟨t159, t160⟩ : S24), (⟨0, 0⟩ : S24), 1, 97⟩ : S35), (⟨(⟨t161, t162⟩ : S24), (⟨t163, t164⟩ : S24), 2, 98⟩ : S35), (⟨(⟨t165, t166⟩ : S24), (⟨t167, t168⟩ : S24), 2, 99⟩ : S35), (⟨(⟨t169, t170⟩ : S24), (⟨t171, t172⟩ : S24), 3, 100⟩ : S35), (⟨(⟨t173, t174⟩ : S24), (⟨0, 0⟩ : S24), 4, 101⟩ : S35), (⟨(⟨bt175.1, bt175.2⟩ : S24), (⟨bt177.1, bt177.2⟩ : S24), 1, 102⟩ : S35), (⟨(⟨bt179.1, bt179.2⟩ : S24), (⟨bt181.1, bt181.2⟩ : S24), 1, 103⟩ : S35), (⟨(⟨bt183.1, bt183.2⟩ : S24), (⟨bt185.1, bt185.2⟩ : S24), 1, 104⟩ : S35)] : List (S35)))))))))) = some r := H
 have A8 := Aside0.mk A80
 clear A80
 replace H := Option.bind_eq_some_iff.mp H
 obtain ⟨⟨t175, t176⟩, A90, H⟩ := H
 replace H : ((redpencillaw11_at.f 9 9).bind fun bt177 => ((redpencillaw11_at.f 3 5).bind fun bt179 => ((redpencillaw11_at.f 3 6).bind fun bt181 => ((redpencillaw11_at.f 3 6).bind fun bt183 => ((redpencillaw11_at.f 3 5).bind fun bt185 => (some (([(⟨(⟨t159, t160⟩ : S24), (⟨0, 0⟩ : S24), 1, 97⟩ : S35), (⟨(⟨t161, t162⟩ : S24), (⟨t163, t164⟩ : S24), 2, 98⟩ : S35), (⟨(⟨t165, t166⟩ : S24), (⟨t167, t168⟩ : S24), 2, 99⟩ : S35), (⟨(⟨t169, t170⟩ : S24), (⟨t171, t172⟩ : S24), 3, 100⟩ : S35), (⟨(⟨t173, t174⟩ : S24), (⟨0, 0⟩ : S24), 4, 101⟩ : S35), (⟨(⟨t175, t176⟩ : S24), (⟨bt177.1, bt177.2⟩ : S24), 1, 102⟩ : S35), (⟨(⟨bt179.1, bt179.2⟩ : S24), (⟨bt181.1, bt181.2⟩ : S24), 1, 103⟩ : S35), (⟨(⟨bt183.1, bt183.2⟩ : S24), (⟨bt185.1, bt185.2⟩ : S24), 1, 104⟩ : S35)] : List (S35))))))))) = some r := H
 have A9 := Aside0.mk A90
 clear A90
 replace H := Option.bind_eq_some_iff.mp H
 obtain ⟨⟨t177, t178⟩, A100, H⟩ := H
 replace H : ((redpencillaw11_at.f 3 5).bind fun bt179 => ((redpencillaw11_at.f 3 6).bind fun bt181 => ((redpencillaw11_at.f 3 6).bind fun bt183 => ((redpencillaw11_at.f 3 5).bind fun bt185 => (some (([(⟨(⟨t159, t160⟩ : S24), (⟨0, 0⟩ : S24), 1, 97⟩ : S35), (⟨(⟨t161, t162⟩ : S24), (⟨t163, t164⟩ : S24), 2, 98⟩ : S35), (⟨(⟨t165, t166⟩ : S24), (⟨t167, t168⟩ : S24), 2, 99⟩ : S35), (⟨(⟨t169, t170⟩ : S24), (⟨t171, t172⟩ : S24), 3, 100⟩ : S35), (⟨(⟨t173, t174⟩ : S24), (⟨0, 0⟩ : S24), 4, 101⟩ : S35), (⟨(⟨t175, t176⟩ : S24), (⟨t177, t178⟩ : S24), 1, 102⟩ : S35), (⟨(⟨bt179.1, bt179.2⟩ : S24), (⟨bt181.1, bt181.2⟩ : S24), 1, 103⟩ : S35), (⟨(⟨bt183.1, bt183.2⟩ : S24), (⟨bt185.1, bt185.2⟩ : S24), 1, 104⟩ : S35)] : List (S35)))))))) = some r := H
 have A10 := Aside0.mk A100
 clear A100
 replace H := Option.bind_eq_some_iff.mp H
 obtain ⟨⟨t179, t180⟩, A110, H⟩ := H
 replace H : ((redpencillaw11_at.f 3 6).bind fun bt181 => ((redpencillaw11_at.f 3 6).bind fun bt183 => ((redpencillaw11_at.f 3 5).bind fun bt185 => (some (([(⟨(⟨t159, t160⟩ : S24), (⟨0, 0⟩ : S24), 1, 97⟩ : S35), (⟨(⟨t161, t162⟩ : S24), (⟨t163, t164⟩ : S24), 2, 98⟩ : S35), (⟨(⟨t165, t166⟩ : S24), (⟨t167, t168⟩ : S24), 2, 99⟩ : S35), (⟨(⟨t169, t170⟩ : S24), (⟨t171, t172⟩ : S24), 3, 100⟩ : S35), (⟨(⟨t173, t174⟩ : S24), (⟨0, 0⟩ : S24), 4, 101⟩ : S35), (⟨(⟨t175, t176⟩ : S24), (⟨t177, t178⟩ : S24), 1, 102⟩ : S35), (⟨(⟨t179, t180⟩ : S24), (⟨bt181.1, bt181.2⟩ : S24), 1, 103⟩ : S35), (⟨(⟨bt183.1, bt183.2⟩ : S24), (⟨bt185.1, bt185.2⟩ : S24), 1, 104⟩ : S35)] : List (S35))))))) = some r := H
 have A11 := Aside0.mk A110
 clear A110
 replace H := Option.bind_eq_some_iff.mp H
 obtain ⟨⟨t181, t182⟩, A120, H⟩ := H
 replace H : ((redpencillaw11_at.f 3 6).bind fun bt183 => ((redpencillaw11_at.f 3 5).bind fun bt185 => (some (([(⟨(⟨t159, t160⟩ : S24), (⟨0, 0⟩ : S24), 1, 97⟩ : S35), (⟨(⟨t161, t162⟩ : S24), (⟨t163, t164⟩ : S24), 2, 98⟩ : S35), (⟨(⟨t165, t166⟩ : S24), (⟨t167, t168⟩ : S24), 2, 99⟩ : S35), (⟨(⟨t169, t170⟩ : S24), (⟨t171, t172⟩ : S24), 3, 100⟩ : S35), (⟨(⟨t173, t174⟩ : S24), (⟨0, 0⟩ : S24), 4, 101⟩ : S35), (⟨(⟨t175, t176⟩ : S24), (⟨t177, t178⟩ : S24), 1, 102⟩ : S35), (⟨(⟨t179, t180⟩ : S24), (⟨t181, t182⟩ : S24), 1, 103⟩ : S35), (⟨(⟨bt183.1, bt183.2⟩ : S24), (⟨bt185.1, bt185.2⟩ : S24), 1, 104⟩ : S35)] : List (S35)))))) = some r := H
 have A12 := Aside0.mk A120
 clear A120
 replace H := Option.bind_eq_some_iff.mp H
 obtain ⟨⟨t183, t184⟩, A130, H⟩ := H
 replace H : ((redpencillaw11_at.f 3 5).bind fun bt185 => (some (([(⟨(⟨t159, t160⟩ : S24), (⟨0, 0⟩ : S24), 1, 97⟩ : S35), (⟨(⟨t161, t162⟩ : S24), (⟨t163, t164⟩ : S24), 2, 98⟩ : S35), (⟨(⟨t165, t166⟩ : S24), (⟨t167, t168⟩ : S24), 2, 99⟩ : S35), (⟨(⟨t169, t170⟩ : S24), (⟨t171, t172⟩ : S24), 3, 100⟩ : S35), (⟨(⟨t173, t174⟩ : S24), (⟨0, 0⟩ : S24), 4, 101⟩ : S35), (⟨(⟨t175, t176⟩ : S24), (⟨t177, t178⟩ : S24), 1, 102⟩ : S35), (⟨(⟨t179, t180⟩ : S24), (⟨t181, t182⟩ : S24), 1, 103⟩ : S35), (⟨(⟨t183, t184⟩ : S24), (⟨bt185.1, bt185.2⟩ : S24), 1, 104⟩ : S35)] : List (S35))))) = some r := H
 have A13 := Aside0.mk A130
 clear A130
 replace H := Option.bind_eq_some_iff.mp H
 obtain ⟨⟨t185, t186⟩, A140, H⟩ := H
 replace H : (some (([(⟨(⟨t159, t160⟩ : S24), (⟨0, 0⟩ : S24), 1, 97⟩ : S35), (⟨(⟨t161, t162⟩ : S24), (⟨t163, t164⟩ : S24), 2, 98⟩ : S35), (⟨(⟨t165, t166⟩ : S24), (⟨t167, t168⟩ : S24), 2, 99⟩ : S35), (⟨(⟨t169, t170⟩ : S24), (⟨t171, t172⟩ : S24), 3, 100⟩ : S35), (⟨(⟨t173, t174⟩ : S24), (⟨0, 0⟩ : S24), 4, 101⟩ : S35), (⟨(⟨t175, t176⟩ : S24), (⟨t177, t178⟩ : S24), 1, 102⟩ : S35), (⟨(⟨t179, t180⟩ : S24), (⟨t181, t182⟩ : S24), 1, 103⟩ : S35), (⟨(⟨t183, t184⟩ : S24), (⟨t185, t186⟩ : S24), 1, 104⟩ : S35)] : List (S35)))) = some r := H
 have A14 := Aside0.mk A140
 clear A140
 obtain ⟨y187, hy187⟩ : ∃ y_ : List (S35), y_ = (([(⟨(⟨t159, t160⟩ : S24), (⟨0, 0⟩ : S24), 1, 97⟩ : S35), (⟨(⟨t161, t162⟩ : S24), (⟨t163, t164⟩ : S24), 2, 98⟩ : S35), (⟨(⟨t165, t166⟩ : S24), (⟨t167, t168⟩ : S24), 2, 99⟩ : S35), (⟨(⟨t169, t170⟩ : S24), (⟨t171, t172⟩ : S24), 3, 100⟩ : S35), (⟨(⟨t173, t174⟩ : S24), (⟨0, 0⟩ : S24), 4, 101⟩ : S35), (⟨(⟨t175, t176⟩ : S24), (⟨t177, t178⟩ : S24), 1, 102⟩ : S35), (⟨(⟨t179, t180⟩ : S24), (⟨t181, t182⟩ : S24), 1, 103⟩ : S35), (⟨(⟨t183, t184⟩ : S24), (⟨t185, t186⟩ : S24), 1, 104⟩ : S35)] : List (S35))) := ⟨_, rfl⟩
 replace H : (some y187) = some r := by first | (rw [hy187]; with_reducible exact H) | (have H2_ := (Option.bind_some _ _).symm.trans H; rw [hy187]; with_reducible exact H2_) | (have H2_ := (Option.bind_some _ _).symm.trans H; with_reducible exact H2_) | with_reducible exact H | (rw [hy187]; exact H) | exact H
 have Ny187 := Aside0.mk hy187
 clear hy187
 obtain rfl := Option.some.inj H
 go_enter Tryz.func62, Tryz.ntmps62
 try go_wp2_with (first | ((with_reducible refine gate_dst (N := 1) rfl ?_); refine box_event ?hg (N := 1) ?hd (cs := #[.int .i64 0, .int .i64 0]) (t := 24) ?hr ?_; (case hd => rfl); (case hg => rfl); (case hr => first | (go_simp; done) | (go_simp; rfl)); intro gb158 hg w15 hbox hb; have n0_ := Aside0.mk (below_step (by repeat (first | (with_reducible first | exact HB.out | apply below_alloc | apply pw_below_drewN | apply below_drew1) | exact HB.out)) hb); have n1_ := Aside0.mk (hbox); have n2_ := Aside0.mk ((by rw [hg]; exact (below_size (by repeat (first | (with_reducible first | exact HB.out | apply below_alloc | apply pw_below_drewN | apply below_drew1) | exact HB.out))) : w.heap.size ≤ gb158)); have n3_ := Aside0.mk ((by rw [hg]; exact (below_size (by repeat (first | (with_reducible first | exact HB.out | apply below_alloc | apply pw_below_drewN | apply below_drew1) | exact HB.out))) : w.heap.size ≤ gb158)); clear HB; have HB := n0_; have BK158 := n1_; have GW158 := n2_; have GE158 := n3_; clear n0_ n1_ n2_ n3_; clear hb hbox hg; have hcz16_0 : w15.cell? ⟨gb158, 0, none⟩ = some (.int .i64 0) := (blk_cell BK158.out 0).trans rfl; have hcz16_1 : w15.cell? ⟨gb158, 1, none⟩ = some (.int .i64 0) := (blk_cell BK158.out 1).trans rfl; have hfz16_0 := blk_frozen BK158.out 0; have hfz16_1 := blk_frozen BK158.out 1))
 have n0_ : Aside0 (((w15.setCell ⟨gb158, 0, none⟩ (.int .i64 0)).setCell ⟨gb158, 1, none⟩ (.int .i64 0)).heap[gb158]? = some (.cells #[.int .i64 0, .int .i64 0] 24 (0, 0))) := ⟨by (with_reducible repeat (first | refine blk_drewN ?_ _ | refine blk_drew ?_ | refine blk_alloc ?_ _)); refine blk_put (cs := #[.int .i64 0, .int .i64 0]) ?_ 1 _ rfl; (with_reducible repeat (first | refine blk_drewN ?_ _ | refine blk_drew ?_ | refine blk_alloc ?_ _)); refine blk_put (cs := #[.int .i64 0, .int .i64 0]) ?_ 0 _ rfl; (with_reducible repeat (first | refine blk_drewN ?_ _ | refine blk_drew ?_ | refine blk_alloc ?_ _)); exact BK158.out⟩
 have n1_ : Aside0 (Below w.heap.size w ((w15.setCell ⟨gb158, 0, none⟩ (.int .i64 0)).setCell ⟨gb158, 1, none⟩ (.int .i64 0))) := ⟨by repeat (first | (with_reducible first | exact HB.out | apply below_alloc | apply pw_below_drewN | apply below_drew1 | refine below_set ?_ GE158.out) | exact HB.out)⟩
 (try clear BK158)
 (try clear HB)
 generalize ((w15.setCell ⟨gb158, 0, none⟩ (.int .i64 0)).setCell ⟨gb158, 1, none⟩ (.int .i64 0)) = w17 at n0_ n1_ ⊢
 have BK158 := n0_
 have HB := n1_
 clear n0_ n1_
 have n0_ := Aside0.mk (blk_drew BK158.out)
 have n1_ := Aside0.mk (below_drew1 HB.out)
 clear BK158
 clear HB
 have BK158 := n0_
 have HB := n1_
 clear n0_ n1_
 refine start_ (n := 26) (S := fun w' => w'.cell? ⟨gb158, 0, none⟩ = some (.int .i64 0) ∧ w'.cell? ⟨gb158, 1, none⟩ = some (.int .i64 0)) (ds := []) #[false, false, false, false, false, false, false, false, false, false, false, false, false, false, false, false, false, false, false, false, false, false, false, false, false, false] (by kernel_rfl) rfl rfl ⟨(blk_cell BK158.out 0).trans rfl, (blk_cell BK158.out 1).trans rfl⟩ (fun hHeld => ?_); refine with_tabW redpencillaw11_given.tab2 redpencillaw11_given.bits2 (fun HT_ HW_ => ?_)
 generalize w17.drew = w18 at BK158 HB hHeld ⊢
 refine take_ (i := 1) (N := some 4) (v := ?_) (a' := ?_) #[false, true, false, false, false, false, false, false, false, false, false, false, false, false, false, false, false, false, false, false, false, false, false, false, false, false] rfl rfl (take_ofW HT_.out HW_.out (by kernel_rfl)) (fun _ _ _ h => h) (Or.inl ⟨by rfl, ?_⟩) hHeld ?_ ?_
 rotate_left
 ·
  rintro w' ⟨s0, s1⟩
  go_simp
  with_reducible rfl
 rotate_left
 ·
  simp only [Act.put, List.setIfInBounds_toArray, List.set_cons_zero, List.set_cons_succ, i64_w, i32_w]
  rfl
 refine take_ (i := 13) (N := some 16) (v := ?_) (a' := ?_) #[false, true, false, false, false, false, false, false, false, false, false, false, false, true, false, false, false, false, false, false, false, false, false, false, false, false] rfl rfl (take_ofW HT_.out HW_.out (by kernel_rfl)) (fun _ _ _ h => h) (Or.inl ⟨by rfl, ?_⟩) hHeld ?_ ?_
 rotate_left
 ·
  rintro w' ⟨s0, s1⟩
  go_simp
  with_reducible rfl
 rotate_left
 ·
  simp only [Act.put, List.setIfInBounds_toArray, List.set_cons_zero, List.set_cons_succ, i64_w, i32_w]
  rfl
 refine one_ (i := 0) (N := some 3) #[true, true, false, false, false, false, false, false, false, false, false, false, false, true, false, false, false, false, false, false, false, false, false, false, false, false] rfl rfl (one_of HT_.out (by kernel_rfl)) (by decide) (fun K hK => ?_)
 refine goes_ Tryz.func32 (by kernel_rfl) rfl #[.int .i64 1, .int .i64 1] (by rfl) rfl rfl (by (try simp only [List.map_toArray, List.map_cons, List.map_nil]); first | done | rfl | (simp only [List.length_drop, List.length_take]; rfl)) ?_
 with_reducible refine (redpencillaw11_at.calls 1 1 t159 t160 _ A1.out).mono ?_
 rintro e w19 ⟨rfl, hb⟩
 refine ⟨_, rfl, ?_⟩
 have n0_ := Aside0.mk (blk_below (g := gb158) (o := .cells #[.int .i64 0, .int .i64 0] 24 (0, 0)) (by (with_reducible repeat (first | refine blk_drewN ?_ _ | refine blk_drew ?_ | refine blk_alloc ?_ _)); exact BK158.out) hb)
 have n1_ := Aside0.mk (below_step (by repeat (first | (with_reducible first | exact HB.out | apply below_alloc | apply pw_below_drewN | apply below_drew1 | refine below_set ?_ GE158.out) | exact HB.out)) hb)
 clear BK158
 clear HB
 have BK158 := n0_
 have HB := n1_
 clear n0_ n1_
 (try clear hb)
 (try clear hb2)
 (try clear hk)
 (try clear hi)
 refine hK.out _ _ ⟨(blk_cell BK158.out 0).trans rfl, (blk_cell BK158.out 1).trans rfl⟩ (fun hHeld => ?_)
 clear hK K
 refine norm_ (a' := ?_) ?_ ?_
 rotate_left
 ·
  show Act.put _ (some 3) _ = _
  simp only [Act.put, List.setIfInBounds_toArray, List.set_cons_zero, List.set_cons_succ, i64_w, i32_w]
  rfl
 refine pure_ (i := 2) (N := some 5) (v := ?_) (a' := ?_) #[true, true, true, false, false, false, false, false, false, false, false, false, false, true, false, false, false, false, false, false, false, false, false, false, false, false] rfl rfl (any_of HT_.out (by kernel_rfl)) (fun _ _ _ h => h) (Or.inl ⟨by rfl, ?_⟩) ?_ ?_
 rotate_left
 ·
  intro w'
  go_simp
  with_reducible rfl
 rotate_left
 ·
  simp only [Act.put, List.setIfInBounds_toArray, List.set_cons_zero, List.set_cons_succ, i64_w, i32_w]
  rfl
 refine one_ (i := 3) (N := some 6) #[true, true, true, true, false, false, false, false, false, false, false, false, false, true, false, false, false, false, false, false, false, false, false, false, false, false] rfl rfl (one_of HT_.out (by kernel_rfl)) (by decide) (fun K hK => ?_)
 refine goes_ Tryz.func32 (by kernel_rfl) rfl #[.int .i64 1, .int .i64 2] (by rfl) rfl rfl (by (try simp only [List.map_toArray, List.map_cons, List.map_nil]); first | done | rfl | (simp only [List.length_drop, List.length_take]; rfl)) ?_
 with_reducible refine (redpencillaw11_at.calls 1 2 t161 t162 _ A2.out).mono ?_
 rintro e w20 ⟨rfl, hb⟩
 refine ⟨_, rfl, ?_⟩
 have n0_ := Aside0.mk (blk_below (g := gb158) (o := .cells #[.int .i64 0, .int .i64 0] 24 (0, 0)) (by (with_reducible repeat (first | refine blk_drewN ?_ _ | refine blk_drew ?_ | refine blk_alloc ?_ _)); exact BK158.out) hb)
 have n1_ := Aside0.mk (below_step (by repeat (first | (with_reducible first | exact HB.out | apply below_alloc | apply pw_below_drewN | apply below_drew1 | refine below_set ?_ GE158.out) | exact HB.out)) hb)
 clear BK158
 clear HB
 have BK158 := n0_
 have HB := n1_
 clear n0_ n1_
 (try clear hb)
 (try clear hb2)
 (try clear hk)
 (try clear hi)
 refine hK.out _ _ ⟨(blk_cell BK158.out 0).trans rfl, (blk_cell BK158.out 1).trans rfl⟩ (fun hHeld => ?_)
 clear hK K
 refine norm_ (a' := ?_) ?_ ?_
 rotate_left
 ·
  show Act.put _ (some 6) _ = _
  simp only [Act.put, List.setIfInBounds_toArray, List.set_cons_zero, List.set_cons_succ, i64_w, i32_w]
  rfl
 refine one_ (i := 4) (N := some 7) #[true, true, true, true, true, false, false, false, false, false, false, false, false, true, false, false, false, false, false, false, false, false, false, false, false, false] rfl rfl (one_of HT_.out (by kernel_rfl)) (by decide) (fun K hK => ?_)
 refine goes_ Tryz.func32 (by kernel_rfl) rfl #[.int .i64 1, .int .i64 1] (by rfl) rfl rfl (by (try simp only [List.map_toArray, List.map_cons, List.map_nil]); first | done | rfl | (simp only [List.length_drop, List.length_take]; rfl)) ?_
 with_reducible refine (redpencillaw11_at.calls 1 1 t163 t164 _ A3.out).mono ?_
 rintro e w21 ⟨rfl, hb⟩
 refine ⟨_, rfl, ?_⟩
 have n0_ := Aside0.mk (blk_below (g := gb158) (o := .cells #[.int .i64 0, .int .i64 0] 24 (0, 0)) (by (with_reducible repeat (first | refine blk_drewN ?_ _ | refine blk_drew ?_ | refine blk_alloc ?_ _)); exact BK158.out) hb)
 have n1_ := Aside0.mk (below_step (by repeat (first | (with_reducible first | exact HB.out | apply below_alloc | apply pw_below_drewN | apply below_drew1 | refine below_set ?_ GE158.out) | exact HB.out)) hb)
 clear BK158
 clear HB
 have BK158 := n0_
 have HB := n1_
 clear n0_ n1_
 (try clear hb)
 (try clear hb2)
 (try clear hk)
 (try clear hi)
 refine hK.out _ _ ⟨(blk_cell BK158.out 0).trans rfl, (blk_cell BK158.out 1).trans rfl⟩ (fun hHeld => ?_)
 clear hK K
 refine norm_ (a' := ?_) ?_ ?_
 rotate_left
 ·
  show Act.put _ (some 7) _ = _
  simp only [Act.put, List.setIfInBounds_toArray, List.set_cons_zero, List.set_cons_succ, i64_w, i32_w]
  rfl
 refine pure_ (i := 5) (N := some 8) (v := ?_) (a' := ?_) #[true, true, true, true, true, true, false, false, false, false, false, false, false, true, false, false, false, false, false, false, false, false, false, false, false, false] rfl rfl (any_of HT_.out (by kernel_rfl)) (fun _ _ _ h => h) (Or.inl ⟨by rfl, ?_⟩) ?_ ?_
 rotate_left
 ·
  intro w'
  go_simp
  with_reducible rfl
 rotate_left
 ·
  simp only [Act.put, List.setIfInBounds_toArray, List.set_cons_zero, List.set_cons_succ, i64_w, i32_w]
  rfl
 refine one_ (i := 6) (N := some 9) #[true, true, true, true, true, true, true, false, false, false, false, false, false, true, false, false, false, false, false, false, false, false, false, false, false, false] rfl rfl (one_of HT_.out (by kernel_rfl)) (by decide) (fun K hK => ?_)
 refine goes_ Tryz.func32 (by kernel_rfl) rfl #[.int .i64 2, .int .i64 2] (by rfl) rfl rfl (by (try simp only [List.map_toArray, List.map_cons, List.map_nil]); first | done | rfl | (simp only [List.length_drop, List.length_take]; rfl)) ?_
 with_reducible refine (redpencillaw11_at.calls 2 2 t165 t166 _ A4.out).mono ?_
 rintro e w22 ⟨rfl, hb⟩
 refine ⟨_, rfl, ?_⟩
 have n0_ := Aside0.mk (blk_below (g := gb158) (o := .cells #[.int .i64 0, .int .i64 0] 24 (0, 0)) (by (with_reducible repeat (first | refine blk_drewN ?_ _ | refine blk_drew ?_ | refine blk_alloc ?_ _)); exact BK158.out) hb)
 have n1_ := Aside0.mk (below_step (by repeat (first | (with_reducible first | exact HB.out | apply below_alloc | apply pw_below_drewN | apply below_drew1 | refine below_set ?_ GE158.out) | exact HB.out)) hb)
 clear BK158
 clear HB
 have BK158 := n0_
 have HB := n1_
 clear n0_ n1_
 (try clear hb)
 (try clear hb2)
 (try clear hk)
 (try clear hi)
 refine hK.out _ _ ⟨(blk_cell BK158.out 0).trans rfl, (blk_cell BK158.out 1).trans rfl⟩ (fun hHeld => ?_)
 clear hK K
 refine norm_ (a' := ?_) ?_ ?_
 rotate_left
 ·
  show Act.put _ (some 9) _ = _
  simp only [Act.put, List.setIfInBounds_toArray, List.set_cons_zero, List.set_cons_succ, i64_w, i32_w]
  rfl
 refine one_ (i := 7) (N := some 10) #[true, true, true, true, true, true, true, true, false, false, false, false, false, true, false, false, false, false, false, false, false, false, false, false, false, false] rfl rfl (one_of HT_.out (by kernel_rfl)) (by decide) (fun K hK => ?_)
 refine goes_ Tryz.func32 (by kernel_rfl) rfl #[.int .i64 1, .int .i64 1] (by rfl) rfl rfl (by (try simp only [List.map_toArray, List.map_cons, List.map_nil]); first | done | rfl | (simp only [List.length_drop, List.length_take]; rfl)) ?_
 with_reducible refine (redpencillaw11_at.calls 1 1 t167 t168 _ A5.out).mono ?_
 rintro e w23 ⟨rfl, hb⟩
 refine ⟨_, rfl, ?_⟩
 have n0_ := Aside0.mk (blk_below (g := gb158) (o := .cells #[.int .i64 0, .int .i64 0] 24 (0, 0)) (by (with_reducible repeat (first | refine blk_drewN ?_ _ | refine blk_drew ?_ | refine blk_alloc ?_ _)); exact BK158.out) hb)
 have n1_ := Aside0.mk (below_step (by repeat (first | (with_reducible first | exact HB.out | apply below_alloc | apply pw_below_drewN | apply below_drew1 | refine below_set ?_ GE158.out) | exact HB.out)) hb)
 clear BK158
 clear HB
 have BK158 := n0_
 have HB := n1_
 clear n0_ n1_
 (try clear hb)
 (try clear hb2)
 (try clear hk)
 (try clear hi)
 refine hK.out _ _ ⟨(blk_cell BK158.out 0).trans rfl, (blk_cell BK158.out 1).trans rfl⟩ (fun hHeld => ?_)
 clear hK K
 refine norm_ (a' := ?_) ?_ ?_
 rotate_left
 ·
  show Act.put _ (some 10) _ = _
  simp only [Act.put, List.setIfInBounds_toArray, List.set_cons_zero, List.set_cons_succ, i64_w, i32_w]
  rfl
 refine pure_ (i := 8) (N := some 11) (v := ?_) (a' := ?_) #[true, true, true, true, true, true, true, true, true, false, false, false, false, true, false, false, false, false, false, false, false, false, false, false, false, false] rfl rfl (any_of HT_.out (by kernel_rfl)) (fun _ _ _ h => h) (Or.inl ⟨by rfl, ?_⟩) ?_ ?_
 rotate_left
 ·
  intro w'
  go_simp
  with_reducible rfl
 rotate_left
 ·
  simp only [Act.put, List.setIfInBounds_toArray, List.set_cons_zero, List.set_cons_succ, i64_w, i32_w]
  rfl
 refine one_ (i := 9) (N := some 12) #[true, true, true, true, true, true, true, true, true, true, false, false, false, true, false, false, false, false, false, false, false, false, false, false, false, false] rfl rfl (one_of HT_.out (by kernel_rfl)) (by decide) (fun K hK => ?_)
 refine goes_ Tryz.func32 (by kernel_rfl) rfl #[.int .i64 2, .int .i64 3] (by rfl) rfl rfl (by (try simp only [List.map_toArray, List.map_cons, List.map_nil]); first | done | rfl | (simp only [List.length_drop, List.length_take]; rfl)) ?_
 with_reducible refine (redpencillaw11_at.calls 2 3 t169 t170 _ A6.out).mono ?_
 rintro e w24 ⟨rfl, hb⟩
 refine ⟨_, rfl, ?_⟩
 have n0_ := Aside0.mk (blk_below (g := gb158) (o := .cells #[.int .i64 0, .int .i64 0] 24 (0, 0)) (by (with_reducible repeat (first | refine blk_drewN ?_ _ | refine blk_drew ?_ | refine blk_alloc ?_ _)); exact BK158.out) hb)
 have n1_ := Aside0.mk (below_step (by repeat (first | (with_reducible first | exact HB.out | apply below_alloc | apply pw_below_drewN | apply below_drew1 | refine below_set ?_ GE158.out) | exact HB.out)) hb)
 clear BK158
 clear HB
 have BK158 := n0_
 have HB := n1_
 clear n0_ n1_
 (try clear hb)
 (try clear hb2)
 (try clear hk)
 (try clear hi)
 refine hK.out _ _ ⟨(blk_cell BK158.out 0).trans rfl, (blk_cell BK158.out 1).trans rfl⟩ (fun hHeld => ?_)
 clear hK K
 refine norm_ (a' := ?_) ?_ ?_
 rotate_left
 ·
  show Act.put _ (some 12) _ = _
  simp only [Act.put, List.setIfInBounds_toArray, List.set_cons_zero, List.set_cons_succ, i64_w, i32_w]
  rfl
 refine one_ (i := 10) (N := some 13) #[true, true, true, true, true, true, true, true, true, true, true, false, false, true, false, false, false, false, false, false, false, false, false, false, false, false] rfl rfl (one_of HT_.out (by kernel_rfl)) (by decide) (fun K hK => ?_)
 refine goes_ Tryz.func32 (by kernel_rfl) rfl #[.int .i64 1, .int .i64 2] (by rfl) rfl rfl (by (try simp only [List.map_toArray, List.map_cons, List.map_nil]); first | done | rfl | (simp only [List.length_drop, List.length_take]; rfl)) ?_
 with_reducible refine (redpencillaw11_at.calls 1 2 t171 t172 _ A7.out).mono ?_
 rintro e w25 ⟨rfl, hb⟩
 refine ⟨_, rfl, ?_⟩
 have n0_ := Aside0.mk (blk_below (g := gb158) (o := .cells #[.int .i64 0, .int .i64 0] 24 (0, 0)) (by (with_reducible repeat (first | refine blk_drewN ?_ _ | refine blk_drew ?_ | refine blk_alloc ?_ _)); exact BK158.out) hb)
 have n1_ := Aside0.mk (below_step (by repeat (first | (with_reducible first | exact HB.out | apply below_alloc | apply pw_below_drewN | apply below_drew1 | refine below_set ?_ GE158.out) | exact HB.out)) hb)
 clear BK158
 clear HB
 have BK158 := n0_
 have HB := n1_
 clear n0_ n1_
 (try clear hb)
 (try clear hb2)
 (try clear hk)
 (try clear hi)
 refine hK.out _ _ ⟨(blk_cell BK158.out 0).trans rfl, (blk_cell BK158.out 1).trans rfl⟩ (fun hHeld => ?_)
 clear hK K
 refine norm_ (a' := ?_) ?_ ?_
 rotate_left
 ·
  show Act.put _ (some 13) _ = _
  simp only [Act.put, List.setIfInBounds_toArray, List.set_cons_zero, List.set_cons_succ, i64_w, i32_w]
  rfl
 refine pure_ (i := 11) (N := some 14) (v := ?_) (a' := ?_) #[true, true, true, true, true, true, true, true, true, true, true, true, false, true, false, false, false, false, false, false, false, false, false, false, false, false] rfl rfl (any_of HT_.out (by kernel_rfl)) (fun _ _ _ h => h) (Or.inl ⟨by rfl, ?_⟩) ?_ ?_
 rotate_left
 ·
  intro w'
  go_simp
  with_reducible rfl
 rotate_left
 ·
  simp only [Act.put, List.setIfInBounds_toArray, List.set_cons_zero, List.set_cons_succ, i64_w, i32_w]
  rfl
 refine one_ (i := 12) (N := some 15) #[true, true, true, true, true, true, true, true, true, true, true, true, true, true, false, false, false, false, false, false, false, false, false, false, false, false] rfl rfl (one_of HT_.out (by kernel_rfl)) (by decide) (fun K hK => ?_)
 refine goes_ Tryz.func32 (by kernel_rfl) rfl #[.int .i64 1, .int .i64 4] (by rfl) rfl rfl (by (try simp only [List.map_toArray, List.map_cons, List.map_nil]); first | done | rfl | (simp only [List.length_drop, List.length_take]; rfl)) ?_
 with_reducible refine (redpencillaw11_at.calls 1 4 t173 t174 _ A8.out).mono ?_
 rintro e w26 ⟨rfl, hb⟩
 refine ⟨_, rfl, ?_⟩
 have n0_ := Aside0.mk (blk_below (g := gb158) (o := .cells #[.int .i64 0, .int .i64 0] 24 (0, 0)) (by (with_reducible repeat (first | refine blk_drewN ?_ _ | refine blk_drew ?_ | refine blk_alloc ?_ _)); exact BK158.out) hb)
 have n1_ := Aside0.mk (below_step (by repeat (first | (with_reducible first | exact HB.out | apply below_alloc | apply pw_below_drewN | apply below_drew1 | refine below_set ?_ GE158.out) | exact HB.out)) hb)
 clear BK158
 clear HB
 have BK158 := n0_
 have HB := n1_
 clear n0_ n1_
 (try clear hb)
 (try clear hb2)
 (try clear hk)
 (try clear hi)
 refine hK.out _ _ ⟨(blk_cell BK158.out 0).trans rfl, (blk_cell BK158.out 1).trans rfl⟩ (fun hHeld => ?_)
 clear hK K
 refine norm_ (a' := ?_) ?_ ?_
 rotate_left
 ·
  show Act.put _ (some 15) _ = _
  simp only [Act.put, List.setIfInBounds_toArray, List.set_cons_zero, List.set_cons_succ, i64_w, i32_w]
  rfl
 refine pure_ (i := 14) (N := some 17) (v := ?_) (a' := ?_) #[true, true, true, true, true, true, true, true, true, true, true, true, true, true, true, false, false, false, false, false, false, false, false, false, false, false] rfl rfl (any_of HT_.out (by kernel_rfl)) (fun _ _ _ h => h) (Or.inl ⟨by rfl, ?_⟩) ?_ ?_
 rotate_left
 ·
  intro w'
  go_simp
  with_reducible rfl
 rotate_left
 ·
  simp only [Act.put, List.setIfInBounds_toArray, List.set_cons_zero, List.set_cons_succ, i64_w, i32_w]
  rfl
 refine one_ (i := 15) (N := some 18) #[true, true, true, true, true, true, true, true, true, true, true, true, true, true, true, true, false, false, false, false, false, false, false, false, false, false] rfl rfl (one_of HT_.out (by kernel_rfl)) (by decide) (fun K hK => ?_)
 refine goes_ Tryz.func32 (by kernel_rfl) rfl #[.int .i64 3, .int .i64 4] (by rfl) rfl rfl (by (try simp only [List.map_toArray, List.map_cons, List.map_nil]); first | done | rfl | (simp only [List.length_drop, List.length_take]; rfl)) ?_
 with_reducible refine (redpencillaw11_at.calls 3 4 t175 t176 _ A9.out).mono ?_
 rintro e w27 ⟨rfl, hb⟩
 refine ⟨_, rfl, ?_⟩
 have n0_ := Aside0.mk (blk_below (g := gb158) (o := .cells #[.int .i64 0, .int .i64 0] 24 (0, 0)) (by (with_reducible repeat (first | refine blk_drewN ?_ _ | refine blk_drew ?_ | refine blk_alloc ?_ _)); exact BK158.out) hb)
 have n1_ := Aside0.mk (below_step (by repeat (first | (with_reducible first | exact HB.out | apply below_alloc | apply pw_below_drewN | apply below_drew1 | refine below_set ?_ GE158.out) | exact HB.out)) hb)
 clear BK158
 clear HB
 have BK158 := n0_
 have HB := n1_
 clear n0_ n1_
 (try clear hb)
 (try clear hb2)
 (try clear hk)
 (try clear hi)
 refine hK.out _ _ ⟨(blk_cell BK158.out 0).trans rfl, (blk_cell BK158.out 1).trans rfl⟩ (fun hHeld => ?_)
 clear hK K
 refine norm_ (a' := ?_) ?_ ?_
 rotate_left
 ·
  show Act.put _ (some 18) _ = _
  simp only [Act.put, List.setIfInBounds_toArray, List.set_cons_zero, List.set_cons_succ, i64_w, i32_w]
  rfl
 refine one_ (i := 16) (N := some 19) #[true, true, true, true, true, true, true, true, true, true, true, true, true, true, true, true, true, false, false, false, false, false, false, false, false, false] rfl rfl (one_of HT_.out (by kernel_rfl)) (by decide) (fun K hK => ?_)
 refine goes_ Tryz.func32 (by kernel_rfl) rfl #[.int .i64 9, .int .i64 9] (by rfl) rfl rfl (by (try simp only [List.map_toArray, List.map_cons, List.map_nil]); first | done | rfl | (simp only [List.length_drop, List.length_take]; rfl)) ?_
 with_reducible refine (redpencillaw11_at.calls 9 9 t177 t178 _ A10.out).mono ?_
 rintro e w28 ⟨rfl, hb⟩
 refine ⟨_, rfl, ?_⟩
 have n0_ := Aside0.mk (blk_below (g := gb158) (o := .cells #[.int .i64 0, .int .i64 0] 24 (0, 0)) (by (with_reducible repeat (first | refine blk_drewN ?_ _ | refine blk_drew ?_ | refine blk_alloc ?_ _)); exact BK158.out) hb)
 have n1_ := Aside0.mk (below_step (by repeat (first | (with_reducible first | exact HB.out | apply below_alloc | apply pw_below_drewN | apply below_drew1 | refine below_set ?_ GE158.out) | exact HB.out)) hb)
 clear BK158
 clear HB
 have BK158 := n0_
 have HB := n1_
 clear n0_ n1_
 (try clear hb)
 (try clear hb2)
 (try clear hk)
 (try clear hi)
 refine hK.out _ _ ⟨(blk_cell BK158.out 0).trans rfl, (blk_cell BK158.out 1).trans rfl⟩ (fun hHeld => ?_)
 clear hK K
 refine norm_ (a' := ?_) ?_ ?_
 rotate_left
 ·
  show Act.put _ (some 19) _ = _
  simp only [Act.put, List.setIfInBounds_toArray, List.set_cons_zero, List.set_cons_succ, i64_w, i32_w]
  rfl
 refine pure_ (i := 17) (N := some 20) (v := ?_) (a' := ?_) #[true, true, true, true, true, true, true, true, true, true, true, true, true, true, true, true, true, true, false, false, false, false, false, false, false, false] rfl rfl (any_of HT_.out (by kernel_rfl)) (fun _ _ _ h => h) (Or.inl ⟨by rfl, ?_⟩) ?_ ?_
 rotate_left
 ·
  intro w'
  go_simp
  with_reducible rfl
 rotate_left
 ·
  simp only [Act.put, List.setIfInBounds_toArray, List.set_cons_zero, List.set_cons_succ, i64_w, i32_w]
  rfl
 refine one_ (i := 18) (N := some 21) #[true, true, true, true, true, true, true, true, true, true, true, true, true, true, true, true, true, true, true, false, false, false, false, false, false, false] rfl rfl (one_of HT_.out (by kernel_rfl)) (by decide) (fun K hK => ?_)
 refine goes_ Tryz.func32 (by kernel_rfl) rfl #[.int .i64 3, .int .i64 5] (by rfl) rfl rfl (by (try simp only [List.map_toArray, List.map_cons, List.map_nil]); first | done | rfl | (simp only [List.length_drop, List.length_take]; rfl)) ?_
 with_reducible refine (redpencillaw11_at.calls 3 5 t179 t180 _ A11.out).mono ?_
 rintro e w29 ⟨rfl, hb⟩
 refine ⟨_, rfl, ?_⟩
 have n0_ := Aside0.mk (blk_below (g := gb158) (o := .cells #[.int .i64 0, .int .i64 0] 24 (0, 0)) (by (with_reducible repeat (first | refine blk_drewN ?_ _ | refine blk_drew ?_ | refine blk_alloc ?_ _)); exact BK158.out) hb)
 have n1_ := Aside0.mk (below_step (by repeat (first | (with_reducible first | exact HB.out | apply below_alloc | apply pw_below_drewN | apply below_drew1 | refine below_set ?_ GE158.out) | exact HB.out)) hb)
 clear BK158
 clear HB
 have BK158 := n0_
 have HB := n1_
 clear n0_ n1_
 (try clear hb)
 (try clear hb2)
 (try clear hk)
 (try clear hi)
 refine hK.out _ _ ⟨(blk_cell BK158.out 0).trans rfl, (blk_cell BK158.out 1).trans rfl⟩ (fun hHeld => ?_)
 clear hK K
 refine norm_ (a' := ?_) ?_ ?_
 rotate_left
 ·
  show Act.put _ (some 21) _ = _
  simp only [Act.put, List.setIfInBounds_toArray, List.set_cons_zero, List.set_cons_succ, i64_w, i32_w]
  rfl
 refine one_ (i := 19) (N := some 22) #[true, true, true, true, true, true, true, true, true, true, true, true, true, true, true, true, true, true, true, true, false, false, false, false, false, false] rfl rfl (one_of HT_.out (by kernel_rfl)) (by decide) (fun K hK => ?_)
 refine goes_ Tryz.func32 (by kernel_rfl) rfl #[.int .i64 3, .int .i64 6] (by rfl) rfl rfl (by (try simp only [List.map_toArray, List.map_cons, List.map_nil]); first | done | rfl | (simp only [List.length_drop, List.length_take]; rfl)) ?_
 with_reducible refine (redpencillaw11_at.calls 3 6 t181 t182 _ A12.out).mono ?_
 rintro e w30 ⟨rfl, hb⟩
 refine ⟨_, rfl, ?_⟩
 have n0_ := Aside0.mk (blk_below (g := gb158) (o := .cells #[.int .i64 0, .int .i64 0] 24 (0, 0)) (by (with_reducible repeat (first | refine blk_drewN ?_ _ | refine blk_drew ?_ | refine blk_alloc ?_ _)); exact BK158.out) hb)
 have n1_ := Aside0.mk (below_step (by repeat (first | (with_reducible first | exact HB.out | apply below_alloc | apply pw_below_drewN | apply below_drew1 | refine below_set ?_ GE158.out) | exact HB.out)) hb)
 clear BK158
 clear HB
 have BK158 := n0_
 have HB := n1_
 clear n0_ n1_
 (try clear hb)
 (try clear hb2)
 (try clear hk)
 (try clear hi)
 refine hK.out _ _ ⟨(blk_cell BK158.out 0).trans rfl, (blk_cell BK158.out 1).trans rfl⟩ (fun hHeld => ?_)
 clear hK K
 refine norm_ (a' := ?_) ?_ ?_
 rotate_left
 ·
  show Act.put _ (some 22) _ = _
  simp only [Act.put, List.setIfInBounds_toArray, List.set_cons_zero, List.set_cons_succ, i64_w, i32_w]
  rfl
 refine pure_ (i := 20) (N := some 23) (v := ?_) (a' := ?_) #[true, true, true, true, true, true, true, true, true, true, true, true, true, true, true, true, true, true, true, true, true, false, false, false, false, false] rfl rfl (any_of HT_.out (by kernel_rfl)) (fun _ _ _ h => h) (Or.inl ⟨by rfl, ?_⟩) ?_ ?_
 rotate_left
 ·
  intro w'
  go_simp
  with_reducible rfl
 rotate_left
 ·
  simp only [Act.put, List.setIfInBounds_toArray, List.set_cons_zero, List.set_cons_succ, i64_w, i32_w]
  rfl
 refine one_ (i := 21) (N := some 24) #[true, true, true, true, true, true, true, true, true, true, true, true, true, true, true, true, true, true, true, true, true, true, false, false, false, false] rfl rfl (one_of HT_.out (by kernel_rfl)) (by decide) (fun K hK => ?_)
 refine goes_ Tryz.func32 (by kernel_rfl) rfl #[.int .i64 3, .int .i64 6] (by rfl) rfl rfl (by (try simp only [List.map_toArray, List.map_cons, List.map_nil]); first | done | rfl | (simp only [List.length_drop, List.length_take]; rfl)) ?_
 with_reducible refine (redpencillaw11_at.calls 3 6 t183 t184 _ A13.out).mono ?_
 rintro e w31 ⟨rfl, hb⟩
 refine ⟨_, rfl, ?_⟩
 have n0_ := Aside0.mk (blk_below (g := gb158) (o := .cells #[.int .i64 0, .int .i64 0] 24 (0, 0)) (by (with_reducible repeat (first | refine blk_drewN ?_ _ | refine blk_drew ?_ | refine blk_alloc ?_ _)); exact BK158.out) hb)
 have n1_ := Aside0.mk (below_step (by repeat (first | (with_reducible first | exact HB.out | apply below_alloc | apply pw_below_drewN | apply below_drew1 | refine below_set ?_ GE158.out) | exact HB.out)) hb)
 clear BK158
 clear HB
 have BK158 := n0_
 have HB := n1_
 clear n0_ n1_
 (try clear hb)
 (try clear hb2)
 (try clear hk)
 (try clear hi)
 refine hK.out _ _ ⟨(blk_cell BK158.out 0).trans rfl, (blk_cell BK158.out 1).trans rfl⟩ (fun hHeld => ?_)
 clear hK K
 refine norm_ (a' := ?_) ?_ ?_
 rotate_left
 ·
  show Act.put _ (some 24) _ = _
  simp only [Act.put, List.setIfInBounds_toArray, List.set_cons_zero, List.set_cons_succ, i64_w, i32_w]
  rfl
 refine one_ (i := 22) (N := some 25) #[true, true, true, true, true, true, true, true, true, true, true, true, true, true, true, true, true, true, true, true, true, true, true, false, false, false] rfl rfl (one_of HT_.out (by kernel_rfl)) (by decide) (fun K hK => ?_)
 refine goes_ Tryz.func32 (by kernel_rfl) rfl #[.int .i64 3, .int .i64 5] (by rfl) rfl rfl (by (try simp only [List.map_toArray, List.map_cons, List.map_nil]); first | done | rfl | (simp only [List.length_drop, List.length_take]; rfl)) ?_
 with_reducible refine (redpencillaw11_at.calls 3 5 t185 t186 _ A14.out).mono ?_
 rintro e w32 ⟨rfl, hb⟩
 refine ⟨_, rfl, ?_⟩
 have n0_ := Aside0.mk (blk_below (g := gb158) (o := .cells #[.int .i64 0, .int .i64 0] 24 (0, 0)) (by (with_reducible repeat (first | refine blk_drewN ?_ _ | refine blk_drew ?_ | refine blk_alloc ?_ _)); exact BK158.out) hb)
 have n1_ := Aside0.mk (below_step (by repeat (first | (with_reducible first | exact HB.out | apply below_alloc | apply pw_below_drewN | apply below_drew1 | refine below_set ?_ GE158.out) | exact HB.out)) hb)
 clear BK158
 clear HB
 have BK158 := n0_
 have HB := n1_
 clear n0_ n1_
 (try clear hb)
 (try clear hb2)
 (try clear hk)
 (try clear hi)
 refine hK.out _ _ ⟨(blk_cell BK158.out 0).trans rfl, (blk_cell BK158.out 1).trans rfl⟩ (fun hHeld => ?_)
 clear hK K
 refine norm_ (a' := ?_) ?_ ?_
 rotate_left
 ·
  show Act.put _ (some 25) _ = _
  simp only [Act.put, List.setIfInBounds_toArray, List.set_cons_zero, List.set_cons_succ, i64_w, i32_w]
  rfl
 refine pure_ (i := 23) (N := some 26) (v := ?_) (a' := ?_) #[true, true, true, true, true, true, true, true, true, true, true, true, true, true, true, true, true, true, true, true, true, true, true, true, false, false] rfl rfl (any_of HT_.out (by kernel_rfl)) (fun _ _ _ h => h) (Or.inl ⟨by rfl, ?_⟩) ?_ ?_
 rotate_left
 ·
  intro w'
  go_simp
  with_reducible rfl
 rotate_left
 ·
  simp only [Act.put, List.setIfInBounds_toArray, List.set_cons_zero, List.set_cons_succ, i64_w, i32_w]
  rfl
 refine one_ (i := 24) (N := some 27) #[true, true, true, true, true, true, true, true, true, true, true, true, true, true, true, true, true, true, true, true, true, true, true, true, true, false] rfl rfl (one_of HT_.out (by kernel_rfl)) (by decide) (fun K hK => ?_)
 refine Kd.R_lit_step k35 _ 35 ?hg (N := 27) ?hd (xs := ([(⟨(⟨t159, t160⟩ : S24), (⟨0, 0⟩ : S24), 1, 97⟩ : S35), (⟨(⟨t161, t162⟩ : S24), (⟨t163, t164⟩ : S24), 2, 98⟩ : S35), (⟨(⟨t165, t166⟩ : S24), (⟨t167, t168⟩ : S24), 2, 99⟩ : S35), (⟨(⟨t169, t170⟩ : S24), (⟨t171, t172⟩ : S24), 3, 100⟩ : S35), (⟨(⟨t173, t174⟩ : S24), (⟨0, 0⟩ : S24), 4, 101⟩ : S35), (⟨(⟨t175, t176⟩ : S24), (⟨t177, t178⟩ : S24), 1, 102⟩ : S35), (⟨(⟨t179, t180⟩ : S24), (⟨t181, t182⟩ : S24), 1, 103⟩ : S35), (⟨(⟨t183, t184⟩ : S24), (⟨t185, t186⟩ : S24), 1, 104⟩ : S35)] : List (S35))) (inner := [.int .i64 t159, .int .i64 t160, .int .i64 0, .int .i64 0, .int .i64 1, .int .i32 97, .int .i64 t161, .int .i64 t162, .int .i64 t163, .int .i64 t164, .int .i64 2, .int .i32 98, .int .i64 t165, .int .i64 t166, .int .i64 t167, .int .i64 t168, .int .i64 2, .int .i32 99, .int .i64 t169, .int .i64 t170, .int .i64 t171, .int .i64 t172, .int .i64 3, .int .i32 100, .int .i64 t173, .int .i64 t174, .int .i64 0, .int .i64 0, .int .i64 4, .int .i32 101, .int .i64 t175, .int .i64 t176, .int .i64 t177, .int .i64 t178, .int .i64 1, .int .i32 102, .int .i64 t179, .int .i64 t180, .int .i64 t181, .int .i64 t182, .int .i64 1, .int .i32 103, .int .i64 t183, .int .i64 t184, .int .i64 t185, .int .i64 t186, .int .i64 1, .int .i32 104]) (ok := fun _ => True) (okp := fun _ => True) ?hr ?hp (fun _ hk => hk) trivial (Below.refl _ _) (Nat.le_refl _) (by simp) ?_; (case hd => rfl); (case hg => rfl); (case hr => first | (go_simp; done) | (go_simp; rfl)); (case hp => exact (Reps.c6 (show Kd.M k35 _ _ _ (⟨(⟨t159, t160⟩ : S24), (⟨0, 0⟩ : S24), 1, 97⟩ : S35) [.int .i64 t159, .int .i64 t160, .int .i64 0, .int .i64 0, .int .i64 1, .int .i32 97] from (k35_mkM _ _ _ (⟨(⟨t159, t160⟩ : S24), (⟨0, 0⟩ : S24), 1, 97⟩ : S35) )) (Reps.c6 (show Kd.M k35 _ _ _ (⟨(⟨t161, t162⟩ : S24), (⟨t163, t164⟩ : S24), 2, 98⟩ : S35) [.int .i64 t161, .int .i64 t162, .int .i64 t163, .int .i64 t164, .int .i64 2, .int .i32 98] from (k35_mkM _ _ _ (⟨(⟨t161, t162⟩ : S24), (⟨t163, t164⟩ : S24), 2, 98⟩ : S35) )) (Reps.c6 (show Kd.M k35 _ _ _ (⟨(⟨t165, t166⟩ : S24), (⟨t167, t168⟩ : S24), 2, 99⟩ : S35) [.int .i64 t165, .int .i64 t166, .int .i64 t167, .int .i64 t168, .int .i64 2, .int .i32 99] from (k35_mkM _ _ _ (⟨(⟨t165, t166⟩ : S24), (⟨t167, t168⟩ : S24), 2, 99⟩ : S35) )) (Reps.c6 (show Kd.M k35 _ _ _ (⟨(⟨t169, t170⟩ : S24), (⟨t171, t172⟩ : S24), 3, 100⟩ : S35) [.int .i64 t169, .int .i64 t170, .int .i64 t171, .int .i64 t172, .int .i64 3, .int .i32 100] from (k35_mkM _ _ _ (⟨(⟨t169, t170⟩ : S24), (⟨t171, t172⟩ : S24), 3, 100⟩ : S35) )) (Reps.c6 (show Kd.M k35 _ _ _ (⟨(⟨t173, t174⟩ : S24), (⟨0, 0⟩ : S24), 4, 101⟩ : S35) [.int .i64 t173, .int .i64 t174, .int .i64 0, .int .i64 0, .int .i64 4, .int .i32 101] from (k35_mkM _ _ _ (⟨(⟨t173, t174⟩ : S24), (⟨0, 0⟩ : S24), 4, 101⟩ : S35) )) (Reps.c6 (show Kd.M k35 _ _ _ (⟨(⟨t175, t176⟩ : S24), (⟨t177, t178⟩ : S24), 1, 102⟩ : S35) [.int .i64 t175, .int .i64 t176, .int .i64 t177, .int .i64 t178, .int .i64 1, .int .i32 102] from (k35_mkM _ _ _ (⟨(⟨t175, t176⟩ : S24), (⟨t177, t178⟩ : S24), 1, 102⟩ : S35) )) (Reps.c6 (show Kd.M k35 _ _ _ (⟨(⟨t179, t180⟩ : S24), (⟨t181, t182⟩ : S24), 1, 103⟩ : S35) [.int .i64 t179, .int .i64 t180, .int .i64 t181, .int .i64 t182, .int .i64 1, .int .i32 103] from (k35_mkM _ _ _ (⟨(⟨t179, t180⟩ : S24), (⟨t181, t182⟩ : S24), 1, 103⟩ : S35) )) (Reps.c6 (show Kd.M k35 _ _ _ (⟨(⟨t183, t184⟩ : S24), (⟨t185, t186⟩ : S24), 1, 104⟩ : S35) [.int .i64 t183, .int .i64 t184, .int .i64 t185, .int .i64 t186, .int .i64 1, .int .i32 104] from (k35_mkM _ _ _ (⟨(⟨t183, t184⟩ : S24), (⟨t185, t186⟩ : S24), 1, 104⟩ : S35) )) (Reps.none _ _))))))))))
 intro v188 w33 ho34 hb hg_ hnew_
 clear hg_ hnew_
 (first | rw [← Ny187.out] at ho34 | (simp only [Int.reduceToNat] at ho34; rw [← Ny187.out] at ho34))
 have n0_ := Aside0.mk (Kd.R_lower ho34 (below_size (by repeat (first | (with_reducible first | exact HB.out | apply below_alloc | apply pw_below_drewN | apply below_drew1 | refine below_set ?_ GE158.out) | exact HB.out))))
 have n1_ := Aside0.mk (blk_below (g := gb158) (o := .cells #[.int .i64 0, .int .i64 0] 24 (0, 0)) (by (with_reducible repeat (first | refine blk_drewN ?_ _ | refine blk_drew ?_ | refine blk_alloc ?_ _)); exact BK158.out) hb)
 have n2_ := Aside0.mk (below_step (by repeat (first | (with_reducible first | exact HB.out | apply below_alloc | apply pw_below_drewN | apply below_drew1 | refine below_set ?_ GE158.out) | exact HB.out)) hb)
 clear BK158
 clear HB
 have HO189 := n0_
 have BK158 := n1_
 have HB := n2_
 clear n0_ n1_ n2_
 clear hb ho34
 refine hK.out _ _ ⟨(blk_cell BK158.out 0).trans rfl, (blk_cell BK158.out 1).trans rfl⟩ (fun hHeld => ?_)
 clear hK K
 refine norm_ (a' := ?_) ?_ ?_
 rotate_left
 ·
  show Act.put _ (some 27) _ = _
  simp only [Act.put, List.setIfInBounds_toArray, List.set_cons_zero, List.set_cons_succ, i64_w, i32_w]
  rfl
 refine pure_ (i := 25) (N := some 0) (v := ?_) (a' := ?_) #[true, true, true, true, true, true, true, true, true, true, true, true, true, true, true, true, true, true, true, true, true, true, true, true, true, true] rfl rfl (any_of HT_.out (by kernel_rfl)) (fun _ _ _ h => h) (Or.inl ⟨by rfl, ?_⟩) ?_ ?_
 rotate_left
 ·
  intro w'
  go_simp
  with_reducible rfl
 rotate_left
 ·
  simp only [Act.put, List.setIfInBounds_toArray, List.set_cons_zero, List.set_cons_succ, i64_w, i32_w]
  rfl
 refine done_ (done_of HT_.out (by kernel_rfl)) ?_
 try go_wp2
 go_ret
 exact ⟨_, by first | rfl | (simp [errW_none, errW_some] <;> rfl) | (simp [*, errW_none, errW_some] <;> rfl), by (with_reducible repeat (first | apply Kd.R_alloc | apply Kd.R_drewN | apply Kd.R_drew)); exact HO189.out, by repeat (first | (with_reducible first | exact HB.out | apply below_alloc | apply pw_below_drewN | apply below_drew1 | refine below_set ?_ GE158.out) | exact HB.out)⟩
end Go.Proofs.YtjlpaagnajmogaaGreat.PWalk
end
section
namespace Go.Proofs.YtjlpaagnajmogaaGreat.PWalk
open Go.RowKit Go.Proofs.YtjlpaagnajmogaaGreatW.PrintWords Go.Proofs.YtjlpaagnajmogaaGreatW.PrintLast Go.Proofs.YtjlpaagnajmogaaGreatW.PrintMore
set_option linter.unusedVariables false
set_option linter.unusedSimpArgs false
open Go.Shelf
attribute [local go_sem] Oper.semAt_some
def GL : List Node := [⟨⟨1, 1⟩, ⟨0, 0⟩, 1, 97⟩, ⟨⟨1, 2⟩, ⟨1, 1⟩, 2, 98⟩, ⟨⟨2, 2⟩, ⟨1, 1⟩, 2, 99⟩, ⟨⟨2, 3⟩, ⟨1, 2⟩, 3, 100⟩, ⟨⟨1, 4⟩, ⟨0, 0⟩, 4, 101⟩, ⟨⟨3, 4⟩, ⟨9, 9⟩, 1, 102⟩, ⟨⟨3, 5⟩, ⟨3, 6⟩, 1, 103⟩, ⟨⟨3, 6⟩, ⟨3, 5⟩, 1, 104⟩]
def OL : List Node := [⟨⟨1, 4⟩, ⟨0, 0⟩, 4, 101⟩, ⟨⟨1, 1⟩, ⟨0, 0⟩, 1, 97⟩, ⟨⟨2, 2⟩, ⟨1, 1⟩, 2, 99⟩, ⟨⟨1, 2⟩, ⟨1, 1⟩, 2, 98⟩, ⟨⟨2, 3⟩, ⟨1, 2⟩, 3, 100⟩]
def kD : Nat → Dot
 | 0 => ⟨0, 0⟩
 | 1 => ⟨1, 1⟩
 | 2 => ⟨9, 9⟩
 | _ => ⟨5, 5⟩
def kW : Nat → List Dot
 | 0 => [⟨1, 4⟩, ⟨1, 1⟩]
 | 1 => [⟨2, 2⟩, ⟨1, 2⟩]
 | 2 => [⟨3, 4⟩]
 | _ => []
def kN : Nat → List Node
 | 0 => [⟨⟨1, 4⟩, ⟨0, 0⟩, 4, 101⟩, ⟨⟨1, 1⟩, ⟨0, 0⟩, 1, 97⟩]
 | 1 => [⟨⟨2, 2⟩, ⟨1, 1⟩, 2, 99⟩, ⟨⟨1, 2⟩, ⟨1, 1⟩, 2, 98⟩]
 | 2 => [⟨⟨3, 4⟩, ⟨9, 9⟩, 1, 102⟩]
 | _ => []
theorem given_is : redpencillaw11_given.f = some GL := by kernel_rfl
theorem dots_1 : redpencillaw11_dots.f 60 [1, 4, 1, 1] = some (kW 0) := by kernel_rfl
theorem dots_2 : redpencillaw11_dots.f 60 [2, 2, 1, 2] = some (kW 1) := by kernel_rfl
theorem dots_3 : redpencillaw11_dots.f 60 [3, 4] = some (kW 2) := by kernel_rfl
theorem dots_4 : redpencillaw11_dots.f 60 [1, 4, 1, 1, 2, 2, 1, 2, 2, 3] = some [⟨1, 4⟩, ⟨1, 1⟩, ⟨2, 2⟩, ⟨1, 2⟩, ⟨2, 3⟩] := by kernel_rfl
theorem dots_5 : redpencillaw11_dots.f 60 [3, 4, 3, 5, 3, 6] = some [⟨3, 4⟩, ⟨3, 5⟩, ⟨3, 6⟩] := by kernel_rfl
theorem dots_6 : redpencillaw11_dots.f 60 [1, 1, 1, 2, 2, 3] = some [⟨1, 1⟩, ⟨1, 2⟩, ⟨2, 3⟩] := by kernel_rfl
theorem dots_7 : redpencillaw11_dots.f 60 [2, 2, 1, 2, 2, 3] = some [⟨2, 2⟩, ⟨1, 2⟩, ⟨2, 3⟩] := by kernel_rfl
theorem kids_k0 : walk_Children.f GL 0 0 = some (kN 0, 0) := by kernel_rfl
theorem kids_k1 : walk_Children.f GL 1 1 = some (kN 1, 0) := by kernel_rfl
theorem kids_k2 : walk_Children.f GL 9 9 = some (kN 2, 0) := by kernel_rfl
theorem kids_k3 : walk_Children.f GL 5 5 = some (kN 3, 0) := by kernel_rfl
theorem kids_k {k : Nat} (h : k < 4) : walk_Children.f GL (kD k).f0 (kD k).f1 = some (kN k, 0) := by
 have : k = 0 ∨ k = 1 ∨ k = 2 ∨ k = 3 := by omega
 rcases this with rfl | rfl | rfl | rfl
 ·
  exact kids_k0
 ·
  exact kids_k1
 ·
  exact kids_k2
 ·
  exact kids_k3
theorem names_k0 : redpencillaw11_names.f 60 (kN 0) = some (kW 0) := by kernel_rfl
theorem names_k1 : redpencillaw11_names.f 60 (kN 1) = some (kW 1) := by kernel_rfl
theorem names_k2 : redpencillaw11_names.f 60 (kN 2) = some (kW 2) := by kernel_rfl
theorem names_k3 : redpencillaw11_names.f 60 (kN 3) = some (kW 3) := by kernel_rfl
theorem names_k {k : Nat} (h : k < 4) : redpencillaw11_names.f 60 (kN k) = some (kW k) := by
 have : k = 0 ∨ k = 1 ∨ k = 2 ∨ k = 3 := by omega
 rcases this with rfl | rfl | rfl | rfl
 ·
  exact names_k0
 ·
  exact names_k1
 ·
  exact names_k2
 ·
  exact names_k3
theorem same_k0 : redpencilref04_Same.f 60 (kW 0) (kW 0) = some true := by kernel_rfl
theorem same_k1 : redpencilref04_Same.f 60 (kW 1) (kW 1) = some true := by kernel_rfl
theorem same_k2 : redpencilref04_Same.f 60 (kW 2) (kW 2) = some true := by kernel_rfl
theorem same_k3 : redpencilref04_Same.f 60 (kW 3) (kW 3) = some true := by kernel_rfl
theorem same_k {k : Nat} (h : k < 4) : redpencilref04_Same.f 60 (kW k) (kW k) = some true := by
 have : k = 0 ∨ k = 1 ∨ k = 2 ∨ k = 3 := by omega
 rcases this with rfl | rfl | rfl | rfl
 ·
  exact same_k0
 ·
  exact same_k1
 ·
  exact same_k2
 ·
  exact same_k3
theorem order_k : walk_Order.f GL = some (OL, 0) := by kernel_rfl
theorem names_o : redpencillaw11_names.f 60 OL = some [⟨1, 4⟩, ⟨1, 1⟩, ⟨2, 2⟩, ⟨1, 2⟩, ⟨2, 3⟩] := by kernel_rfl
theorem same_o : redpencilref04_Same.f 60 [⟨1, 4⟩, ⟨1, 1⟩, ⟨2, 2⟩, ⟨1, 2⟩, ⟨2, 3⟩] [⟨1, 4⟩, ⟨1, 1⟩, ⟨2, 2⟩, ⟨1, 2⟩, ⟨2, 3⟩] = some true := by kernel_rfl
theorem goes_o : redpencillaw11_goes.f GL OL [0, 0, 1, 1, 2] (-1) = some true := by kernel_rfl
theorem lost_o : redpencillaw11_lost.f 60 GL [⟨3, 4⟩, ⟨3, 5⟩, ⟨3, 6⟩] 0 = some true := by kernel_rfl
theorem path_1 : redpencillaw11_path.f 60 GL 2 3 [⟨1, 1⟩, ⟨1, 2⟩, ⟨2, 3⟩] 0 = some true := by kernel_rfl
theorem path_2 : redpencillaw11_path.f 60 GL 3 5 [] 9 = some true := by kernel_rfl
theorem below_1 : redpencillaw11_below.f 60 GL 1 1 [⟨2, 2⟩, ⟨1, 2⟩, ⟨2, 3⟩] 0 = some true := by kernel_rfl
theorem below_2 : redpencillaw11_below.f 60 GL 2 3 [] 0 = some true := by kernel_rfl
theorem below_3 : redpencillaw11_below.f 60 GL 9 9 [] 9 = some true := by kernel_rfl
theorem ints_C {W : World} {g : Nat} {zs : List Int} (h : W.heap[g]? = some (.cells (zs.map (Value.int .i64)).toArray 3 (0, 0))) (hl : zs.length ≤ 1000000) : Kd.C (Kd.int .i64) W (some ⟨g, 0, none⟩) zs.length zs := by
 have hr : ReadsInt W .i64 (some ⟨g, 0, none⟩) zs.length zs := ⟨rfl, by omega, fun _ => ⟨_, rfl, fun j hj => by
  rw [show (⟨g, 0, none⟩ : Addr).add j = ⟨g, j, none⟩ by rw [add_lit, Nat.zero_add], blk_cell h]
  simp [hj]⟩⟩
 exact Kd.C_of_reads (d := (0 : Int)) (h1 := fun _ => rfl) hr
theorem RD_C {W : World} {base m c : Nat} {A : Option Addr} {xs : List Dot} (h : RD W base (.slice A m c) xs) : m = xs.length ∧ xs.length ≤ c ∧ Kd.C k24 W A xs.length xs := by
 obtain ⟨rfl, h1, h2⟩ := RD.C h
 exact ⟨rfl, h1, h2⟩
theorem nilD {W : World} : Kd.C k24 W none ([] : List Dot).length [] := ⟨rfl, by decide, fun h => absurd h (by decide)⟩
/-- What the literals' region has laid so far. -/
structure KnF (W0 : World) (l1 l2 l3 l5 l6 l7 l9 l10 l11 l14 : Bool) (g1 g2 g3 ga : Nat) (A1 A2 A3 : Option Addr) (c1 c2 c3 : Nat) (V : World) : Prop where
 ord : l14 = true → l3 = true ∧ l7 = true ∧ l11 = true
 ord3 : l3 = true → l2 = true
 ord7 : l7 = true → l6 = true
 ord11 : l11 = true → l10 = true
 below : Below W0.heap.size W0 V
 b1 : l1 = true → V.heap[g1]? = some (.cells (([1, 4, 1, 1] : List Int).map (Value.int .i64)).toArray 3 (0, 0))
 r1 : l2 = true → RD V W0.heap.size (.slice A1 2 c1) (kW 0)
 b2 : l5 = true → V.heap[g2]? = some (.cells (([2, 2, 1, 2] : List Int).map (Value.int .i64)).toArray 3 (0, 0))
 r2 : l6 = true → RD V W0.heap.size (.slice A2 2 c2) (kW 1)
 b3 : l9 = true → V.heap[g3]? = some (.cells (([3, 4] : List Int).map (Value.int .i64)).toArray 3 (0, 0))
 r3 : l10 = true → RD V W0.heap.size (.slice A3 1 c3) (kW 2)
 arr : l14 = true → V.heap[ga]? = some (.cells #[.int .i64 0, .int .i64 0, .slice A1 2 c1, .int .i64 1, .int .i64 1, .slice A2 2 c2, .int .i64 9, .int .i64 9, .slice A3 1 c3, .int .i64 5, .int .i64 5, .slice none 0 0] 80 (0, 0))
/-- What lies in the literal's elements. -/
theorem arr_at {V : World} {b ga : Nat} {A1 A2 A3 : Option Addr} {c1 c2 c3 : Nat} (h : V.heap[ga]? = some (.cells #[.int .i64 0, .int .i64 0, .slice A1 2 c1, .int .i64 1, .int .i64 1, .slice A2 2 c2, .int .i64 9, .int .i64 9, .slice A3 1 c3, .int .i64 5, .int .i64 5, .slice none 0 0] 80 (0, 0)))
  (r1 : RD V b (.slice A1 2 c1) (kW 0)) (r2 : RD V b (.slice A2 2 c2) (kW 1)) (r3 : RD V b (.slice A3 1 c3) (kW 2)) {k : Nat} (hk : k < 4) :
  ∃ Aw cw, V.cell? ⟨ga, k * 3, none⟩ = some (.int .i64 (kD k).f0) ∧ V.cell? ⟨ga, k * 3 + 1, none⟩ = some (.int .i64 (kD k).f1) ∧ V.cell? ⟨ga, k * 3 + 2, none⟩ = some (.slice Aw (kW k).length cw) ∧ (kW k).length ≤ cw ∧ Kd.C k24 V Aw (kW k).length (kW k) := by
 have : k = 0 ∨ k = 1 ∨ k = 2 ∨ k = 3 := by omega
 rcases this with rfl | rfl | rfl | rfl
 ·
  exact ⟨A1, c1, (blk_cell h 0).trans rfl, (blk_cell h 1).trans rfl, (blk_cell h 2).trans rfl, (RD_C r1).2.1, (RD_C r1).2.2⟩
 ·
  exact ⟨A2, c2, (blk_cell h 3).trans rfl, (blk_cell h 4).trans rfl, (blk_cell h 5).trans rfl, (RD_C r2).2.1, (RD_C r2).2.2⟩
 ·
  exact ⟨A3, c3, (blk_cell h 6).trans rfl, (blk_cell h 7).trans rfl, (blk_cell h 8).trans rfl, (RD_C r3).2.1, (RD_C r3).2.2⟩
 ·
  exact ⟨none, 0, (blk_cell h 9).trans rfl, (blk_cell h 10).trans rfl, (blk_cell h 11).trans rfl, Nat.le_refl _, ⟨rfl, by decide, fun h => absurd h (by decide)⟩⟩
/-- What has come up where names are compared. -/
structure KsF (W0 : World) (k : Nat) (l1 : Bool) (An : Option Addr) (nw cn : Nat) (V : World) : Prop where
 below : Below W0.heap.size W0 V
 r1 : l1 = true → RD V W0.heap.size (.slice An nw cn) (kW k)
def kn2Inv (W0 : World) (Ag : Option Addr) (cg R : Nat) (L : Array Bool) (ac : Act) (V : World) : Prop := ∃ (l0 l1 l2 l3 l4 l5 l6 l7 l8 l9 l10 l11 l12 l13 l14 l15 l16 : Bool) (g1 : Nat) (g2 : Nat) (g3 : Nat) (ga : Nat) (A1 : Option Addr) (A2 : Option Addr) (A3 : Option Addr) (c1 : Nat) (c2 : Nat) (c3 : Nat), L = #[l0, l1, l2, l3, l4, l5, l6, l7, l8, l9, l10, l11, l12, l13, l14, l15, l16] ∧ ac = { tmps := #[.bool false, .slice Ag 8 cg, .pointer (some ⟨R, 0, none⟩), undef, undef, undef, undef, undef, undef, .slice Ag 8 cg, .agg #[.int .i64 0, .int .i64 0], sel l0 (.agg #[.int .i64 0, .int .i64 0]), sel l1 (.slice (some ⟨g1, 0, none⟩) 4 4), sel l2 (.slice A1 2 c1), sel l3 (.agg #[.int .i64 0, .int .i64 0, .slice A1 2 c1]), sel l4 (.agg #[.int .i64 1, .int .i64 1]), sel l5 (.slice (some ⟨g2, 0, none⟩) 4 4), sel l6 (.slice A2 2 c2), sel l7 (.agg #[.int .i64 1, .int .i64 1, .slice A2 2 c2]), sel l8 (.agg #[.int .i64 9, .int .i64 9]), sel l9 (.slice (some ⟨g3, 0, none⟩) 2 2), sel l10 (.slice A3 1 c3), sel l11 (.agg #[.int .i64 9, .int .i64 9, .slice A3 1 c3]), sel l12 (.agg #[.int .i64 5, .int .i64 5]), sel l13 (.agg #[.int .i64 5, .int .i64 5, .slice none 0 0]), sel l14 (.slice (some ⟨ga, 0, none⟩) 4 4), sel l15 (.int .i64 4), sel l16 (.int .i64 0), undef, undef, undef, undef, undef, undef, undef, undef, undef, undef, undef, undef, undef, undef, undef, undef, undef, undef, undef, undef, undef, undef, undef, undef, undef, undef, undef, undef, undef, undef, undef, undef, undef, undef, undef, undef, undef, undef, undef, undef, undef, undef, undef, undef, undef, undef, undef, undef, undef, undef, undef, undef, undef, undef, undef, undef, undef, undef, undef, undef, undef, undef, undef, undef, undef, undef, undef, undef, undef, undef, undef, undef, undef, undef, undef, undef], defers := [] } ∧ Aside0 (KnF W0 l1 l2 l3 l5 l6 l7 l9 l10 l11 l14 g1 g2 g3 ga A1 A2 A3 c1 c2 c3 V)
def kn6Inv (W0 : World) (k Xb nc cc nw cw : Nat) (Ac Aw : Option Addr) (z0 z1 z2 z3 z7 z8 z9 z10 z11 z12 z13 z14 z15 z16 z17 z18 z19 z20 z21 z22 z23 z24 z25 z26 z27 z28 z29 z30 z31 z32 z33 z34 z35 z36 z37 z38 z39 z40 z41 z42 z43 z44 z45 z46 z47 z48 z49 z50 z51 z52 z53 z54 z55 z56 z57 z58 z59 z60 z61 z62 z63 z64 z65 z66 z67 z68 z69 z70 z71 z72 z73 z74 z75 z76 z77 z78 z79 z80 z81 z82 z83 z84 z85 z86 z87 z88 z89 z90 z91 z92 z93 z94 z95 z96 z97 z98 z99 z100 z101 z102 z103 : Value) (L : Array Bool) (ac : Act) (V : World) : Prop := ∃ (l0 l1 l2 l3 l4 l5 l6 l7 l8 l9 : Bool) (An : Option Addr) (cn : Nat), L = #[l0, l1, l2, l3, l4, l5, l6, l7, l8, l9] ∧ ac = { tmps := #[z0, z1, z2, z3, .pointer (some ⟨Xb, 0, none⟩), .slice Ac nc cc, .int .i64 0, z7, z8, z9, z10, z11, z12, z13, z14, z15, z16, z17, z18, z19, z20, z21, z22, z23, z24, z25, z26, z27, z28, z29, z30, z31, z32, z33, z34, z35, z36, z37, selv l0 (.slice Ac nc cc) (z38), selv l1 (.slice An nw cn) (z39), selv l2 (.pointer (some ⟨Xb, 2, none⟩)) (z40), selv l3 (.slice Aw nw cw) (z41), selv l4 (.bool true) (z42), selv l5 (.bool false) (z43), selv l6 (.bool false) (z44), selv l7 (.int .i64 0) (z45), selv l8 (.bool false) (z46), selv l9 (.bool false) (z47), z48, z49, z50, z51, z52, z53, z54, z55, z56, z57, z58, z59, z60, z61, z62, z63, z64, z65, z66, z67, z68, z69, z70, z71, z72, z73, z74, z75, z76, z77, z78, z79, z80, z81, z82, z83, z84, z85, z86, z87, z88, z89, z90, z91, z92, z93, z94, z95, z96, z97, z98, z99, z100, z101, z102, z103], defers := [] } ∧ Aside0 (KsF W0 k l1 An nw cn V)
set_option maxHeartbeats 4000000 in
set_option maxRecDepth 100000 in
theorem known_walk (w : World) : Calls Tryz.prog 13 #[] w fun e w' => e = .returned (.bool true) ∧ Below w.heap.size w w' := by
 go_enter Tryz.func13, Tryz.ntmps13
 go_wp2_with fail
 refine (redpencillaw11_given.calls GL w given_is).mono ?_
 rintro e w1 ⟨vg, rfl, hg, hb⟩
 obtain ⟨Ag, cg, rfl⟩ := RN.slice hg
 have HGL : Aside0 (8 ≤ cg ∧ Kd.C k35 w1 Ag 8 GL) := ⟨(RN.C hg).2⟩
 have HB1 := Aside0.mk hb
 clear hg hb
 rw [show GL.length = 8 from rfl]
 have HBR := Aside0.mk (Gr.alloc w1 (dotC ⟨0, 0⟩)).below
 have HR0 := Aside0.mk (blk_new w1 (dotC ⟨0, 0⟩))
 go_wp2_with fail
 obtain ⟨W2, HW2⟩ : ∃ W2, Aside0 (w1.alloc (dotC ⟨0, 0⟩) = W2) := ⟨_, ⟨rfl⟩⟩
 obtain ⟨R, HRe⟩ : ∃ R, Aside0 (w1.heap.size = R) := ⟨_, ⟨rfl⟩⟩
 rw [HW2.out, HRe.out] at HR0
 rw [HW2.out] at HBR
 rw [show w1.alloc (Obj.cells #[Value.int IntKind.i64 0, Value.int IntKind.i64 0] 24) = W2 from HW2.out, show (Value.pointer (some { block := w1.heap.size, off := 0 })) = .pointer (some ⟨R, 0, none⟩) by rw [HRe.out]]
 refine AnyOrder.wp_region (by kernel_rfl) (kn2Inv W2.drew Ag cg R) ⟨false, false, false, false, false, false, false, false, false, false, false, false, false, false, false, false, false, 0, 0, 0, 0, none, none, none, 0, 0, 0, rfl, rfl, ⟨⟨fun h => (by cases h), fun h => (by cases h), fun h => (by cases h), fun h => (by cases h), Below.refl _ _, fun h => (by cases h), fun h => (by cases h), fun h => (by cases h), fun h => (by cases h), fun h => (by cases h), fun h => (by cases h), fun h => (by cases h)⟩⟩⟩ ?step ?last
 case step =>
  rintro L ac V i ⟨l0, l1, l2, l3, l4, l5, l6, l7, l8, l9, l10, l11, l12, l13, l14, l15, l16, g1, g2, g3, ga, A1, A2, A3, c1, c2, c3, rfl, rfl, HF⟩ hi K hK
  have h1 : i = 0 ∨ i = 1 ∨ i = 2 ∨ i = 3 ∨ i = 4 ∨ i = 5 ∨ i = 6 ∨ i = 7 ∨ i = 8 ∨ i = 9 ∨ i = 10 ∨ i = 11 ∨ i = 12 ∨ i = 13 ∨ i = 14 ∨ i = 15 ∨ i = 16 := by
   have h1 := (AnyOrder.mem_ready hi).1
   clear hi hK
   change i < 17 at h1
   omega
  rcases h1 with rfl | rfl | rfl | rfl | rfl | rfl | rfl | rfl | rfl | rfl | rfl | rfl | rfl | rfl | rfl | rfl | rfl
  ·
   obtain rfl : l0 = false := (AnyOrder.mem_ready hi).2.1
   clear hi
   have hr := blk_keep (blk_drew HR0.out) HF.out.below
   have q0 : V.cell? ⟨R, 0, none⟩ = _ := (blk_cell hr 0).trans rfl
   have q1 : V.cell? ⟨R, 1, none⟩ = _ := (blk_cell hr 1).trans rfl
   refine AnyOrder.wpOp_go rfl (by rfl) ?_
   go_wp2_with fail
   exact ⟨true, l1, l2, l3, l4, l5, l6, l7, l8, l9, l10, l11, l12, l13, l14, l15, l16, g1, g2, g3, ga, A1, A2, A3, c1, c2, c3, rfl, rfl, HF⟩
  ·
   obtain rfl : l1 = false := (AnyOrder.mem_ready hi).2.1
   clear hi
   have hb := (Gr.alloc V (.cells (([1, 4, 1, 1] : List Int).map (Value.int .i64)).toArray 3 (0, 0))).below
   refine AnyOrder.wpOp_go rfl (by rfl) ?_
   go_wp2_with fail
   exact ⟨l0, true, l2, l3, l4, l5, l6, l7, l8, l9, l10, l11, l12, l13, l14, l15, l16, V.heap.size, g2, g3, ga, A1, A2, A3, c1, c2, c3, rfl, rfl, ⟨⟨HF.out.ord, HF.out.ord3, HF.out.ord7, HF.out.ord11, below_more HF.out.below hb, fun _ => blk_new _ _, fun e => RD.below' (HF.out.r1 e) hb, fun e => blk_keep (HF.out.b2 e) hb, fun e => RD.below' (HF.out.r2 e) hb, fun e => blk_keep (HF.out.b3 e) hb, fun e => RD.below' (HF.out.r3 e) hb, fun e => blk_keep (HF.out.arr e) hb⟩⟩⟩
  ·
   obtain rfl : l2 = false := (AnyOrder.mem_ready hi).2.1
   obtain rfl : l1 = true := AnyOrder.dep (q := 0) hi rfl rfl rfl
   clear hi
   simp only [sel_true, selv_true] at hK ⊢
   obtain rfl : l3 = false := by cases l3 with | false => rfl | true => cases HF.out.ord3 rfl
   obtain rfl : l14 = false := by cases l14 with | false => rfl | true => cases (HF.out.ord rfl).1
   refine AnyOrder.wpOp_go rfl (by rfl) ?_
   go_wp2_with fail
   refine (redpencillaw11_dots.calls 60 (some ⟨g1, 0, none⟩) 4 [1, 4, 1, 1] (kW 0) V (ints_C (HF.out.b1 rfl) (by decide)) (Nat.le_refl _) dots_1).mono ?_
   rintro e V' ⟨u, rfl, hr, hb⟩
   obtain ⟨Au, cu, rfl⟩ := RD.slice hr
   exact hK _ _ ⟨l0, true, true, false, l4, l5, l6, l7, l8, l9, l10, l11, l12, l13, false, l15, l16, g1, g2, g3, ga, Au, A2, A3, cu, c2, c3, rfl, rfl, ⟨⟨fun h => (by cases h), fun h => (by cases h), HF.out.ord7, HF.out.ord11, below_more HF.out.below hb, fun e => blk_keep (HF.out.b1 e) hb, fun _ => Kd.R_lower hr HF.out.below.size, fun e => blk_keep (HF.out.b2 e) hb, fun e => RD.below' (HF.out.r2 e) hb, fun e => blk_keep (HF.out.b3 e) hb, fun e => RD.below' (HF.out.r3 e) hb, fun h => (by cases h)⟩⟩⟩
  ·
   obtain rfl : l3 = false := (AnyOrder.mem_ready hi).2.1
   obtain rfl : l0 = true := AnyOrder.dep (q := 0) hi rfl rfl rfl
   obtain rfl : l2 = true := AnyOrder.dep (q := 1) hi rfl rfl rfl
   clear hi
   simp only [sel_true, selv_true] at hK ⊢
   refine AnyOrder.wpOp_go rfl (by rfl) ?_
   go_wp2_with fail
   exact ⟨true, l1, true, true, l4, l5, l6, l7, l8, l9, l10, l11, l12, l13, l14, l15, l16, g1, g2, g3, ga, A1, A2, A3, c1, c2, c3, rfl, rfl, ⟨⟨fun h => absurd (HF.out.ord h).1 (by simp), fun _ => rfl, HF.out.ord7, HF.out.ord11, HF.out.below, HF.out.b1, HF.out.r1, HF.out.b2, HF.out.r2, HF.out.b3, HF.out.r3, HF.out.arr⟩⟩⟩
  ·
   obtain rfl : l4 = false := (AnyOrder.mem_ready hi).2.1
   obtain rfl : l2 = true := AnyOrder.dep (q := 0) hi rfl rfl rfl
   clear hi
   simp only [sel_true, selv_true] at hK ⊢
   refine AnyOrder.wpOp_go rfl (by rfl) ?_
   go_wp2_with fail
   refine (redpencillaw11_at.calls _ _ _ _ V rfl).mono ?_
   rintro e V' ⟨rfl, hb⟩
   exact hK _ _ ⟨l0, l1, true, l3, true, l5, l6, l7, l8, l9, l10, l11, l12, l13, l14, l15, l16, g1, g2, g3, ga, A1, A2, A3, c1, c2, c3, rfl, rfl, ⟨⟨HF.out.ord, HF.out.ord3, HF.out.ord7, HF.out.ord11, below_more HF.out.below hb, fun e => blk_keep (HF.out.b1 e) hb, fun e => RD.below' (HF.out.r1 e) hb, fun e => blk_keep (HF.out.b2 e) hb, fun e => RD.below' (HF.out.r2 e) hb, fun e => blk_keep (HF.out.b3 e) hb, fun e => RD.below' (HF.out.r3 e) hb, fun e => blk_keep (HF.out.arr e) hb⟩⟩⟩
  ·
   obtain rfl : l5 = false := (AnyOrder.mem_ready hi).2.1
   clear hi
   have hb := (Gr.alloc V (.cells (([2, 2, 1, 2] : List Int).map (Value.int .i64)).toArray 3 (0, 0))).below
   refine AnyOrder.wpOp_go rfl (by rfl) ?_
   go_wp2_with fail
   exact ⟨l0, l1, l2, l3, l4, true, l6, l7, l8, l9, l10, l11, l12, l13, l14, l15, l16, g1, V.heap.size, g3, ga, A1, A2, A3, c1, c2, c3, rfl, rfl, ⟨⟨HF.out.ord, HF.out.ord3, HF.out.ord7, HF.out.ord11, below_more HF.out.below hb, fun e => blk_keep (HF.out.b1 e) hb, fun e => RD.below' (HF.out.r1 e) hb, fun _ => blk_new _ _, fun e => RD.below' (HF.out.r2 e) hb, fun e => blk_keep (HF.out.b3 e) hb, fun e => RD.below' (HF.out.r3 e) hb, fun e => blk_keep (HF.out.arr e) hb⟩⟩⟩
  ·
   obtain rfl : l6 = false := (AnyOrder.mem_ready hi).2.1
   obtain rfl : l5 = true := AnyOrder.dep (q := 0) hi rfl rfl rfl
   obtain rfl : l4 = true := AnyOrder.dep (q := 1) hi rfl rfl rfl
   clear hi
   simp only [sel_true, selv_true] at hK ⊢
   obtain rfl : l7 = false := by cases l7 with | false => rfl | true => cases HF.out.ord7 rfl
   obtain rfl : l14 = false := by cases l14 with | false => rfl | true => cases (HF.out.ord rfl).2.1
   refine AnyOrder.wpOp_go rfl (by rfl) ?_
   go_wp2_with fail
   refine (redpencillaw11_dots.calls 60 (some ⟨g2, 0, none⟩) 4 [2, 2, 1, 2] (kW 1) V (ints_C (HF.out.b2 rfl) (by decide)) (Nat.le_refl _) dots_2).mono ?_
   rintro e V' ⟨u, rfl, hr, hb⟩
   obtain ⟨Au, cu, rfl⟩ := RD.slice hr
   exact hK _ _ ⟨l0, l1, l2, l3, true, true, true, false, l8, l9, l10, l11, l12, l13, false, l15, l16, g1, g2, g3, ga, A1, Au, A3, c1, cu, c3, rfl, rfl, ⟨⟨fun h => (by cases h), HF.out.ord3, fun h => (by cases h), HF.out.ord11, below_more HF.out.below hb, fun e => blk_keep (HF.out.b1 e) hb, fun e => RD.below' (HF.out.r1 e) hb, fun e => blk_keep (HF.out.b2 e) hb, fun _ => Kd.R_lower hr HF.out.below.size, fun e => blk_keep (HF.out.b3 e) hb, fun e => RD.below' (HF.out.r3 e) hb, fun h => (by cases h)⟩⟩⟩
  ·
   obtain rfl : l7 = false := (AnyOrder.mem_ready hi).2.1
   obtain rfl : l4 = true := AnyOrder.dep (q := 0) hi rfl rfl rfl
   obtain rfl : l6 = true := AnyOrder.dep (q := 1) hi rfl rfl rfl
   clear hi
   simp only [sel_true, selv_true] at hK ⊢
   refine AnyOrder.wpOp_go rfl (by rfl) ?_
   go_wp2_with fail
   exact ⟨l0, l1, l2, l3, true, l5, true, true, l8, l9, l10, l11, l12, l13, l14, l15, l16, g1, g2, g3, ga, A1, A2, A3, c1, c2, c3, rfl, rfl, ⟨⟨fun h => absurd (HF.out.ord h).2.1 (by simp), HF.out.ord3, fun _ => rfl, HF.out.ord11, HF.out.below, HF.out.b1, HF.out.r1, HF.out.b2, HF.out.r2, HF.out.b3, HF.out.r3, HF.out.arr⟩⟩⟩
  ·
   obtain rfl : l8 = false := (AnyOrder.mem_ready hi).2.1
   obtain rfl : l6 = true := AnyOrder.dep (q := 0) hi rfl rfl rfl
   clear hi
   simp only [sel_true, selv_true] at hK ⊢
   refine AnyOrder.wpOp_go rfl (by rfl) ?_
   go_wp2_with fail
   refine (redpencillaw11_at.calls _ _ _ _ V rfl).mono ?_
   rintro e V' ⟨rfl, hb⟩
   exact hK _ _ ⟨l0, l1, l2, l3, l4, l5, true, l7, true, l9, l10, l11, l12, l13, l14, l15, l16, g1, g2, g3, ga, A1, A2, A3, c1, c2, c3, rfl, rfl, ⟨⟨HF.out.ord, HF.out.ord3, HF.out.ord7, HF.out.ord11, below_more HF.out.below hb, fun e => blk_keep (HF.out.b1 e) hb, fun e => RD.below' (HF.out.r1 e) hb, fun e => blk_keep (HF.out.b2 e) hb, fun e => RD.below' (HF.out.r2 e) hb, fun e => blk_keep (HF.out.b3 e) hb, fun e => RD.below' (HF.out.r3 e) hb, fun e => blk_keep (HF.out.arr e) hb⟩⟩⟩
  ·
   obtain rfl : l9 = false := (AnyOrder.mem_ready hi).2.1
   clear hi
   have hb := (Gr.alloc V (.cells (([3, 4] : List Int).map (Value.int .i64)).toArray 3 (0, 0))).below
   refine AnyOrder.wpOp_go rfl (by rfl) ?_
   go_wp2_with fail
   exact ⟨l0, l1, l2, l3, l4, l5, l6, l7, l8, true, l10, l11, l12, l13, l14, l15, l16, g1, g2, V.heap.size, ga, A1, A2, A3, c1, c2, c3, rfl, rfl, ⟨⟨HF.out.ord, HF.out.ord3, HF.out.ord7, HF.out.ord11, below_more HF.out.below hb, fun e => blk_keep (HF.out.b1 e) hb, fun e => RD.below' (HF.out.r1 e) hb, fun e => blk_keep (HF.out.b2 e) hb, fun e => RD.below' (HF.out.r2 e) hb, fun _ => blk_new _ _, fun e => RD.below' (HF.out.r3 e) hb, fun e => blk_keep (HF.out.arr e) hb⟩⟩⟩
  ·
   obtain rfl : l10 = false := (AnyOrder.mem_ready hi).2.1
   obtain rfl : l9 = true := AnyOrder.dep (q := 0) hi rfl rfl rfl
   obtain rfl : l8 = true := AnyOrder.dep (q := 1) hi rfl rfl rfl
   clear hi
   simp only [sel_true, selv_true] at hK ⊢
   obtain rfl : l11 = false := by cases l11 with | false => rfl | true => cases HF.out.ord11 rfl
   obtain rfl : l14 = false := by cases l14 with | false => rfl | true => cases (HF.out.ord rfl).2.2
   refine AnyOrder.wpOp_go rfl (by rfl) ?_
   go_wp2_with fail
   refine (redpencillaw11_dots.calls 60 (some ⟨g3, 0, none⟩) 2 [3, 4] (kW 2) V (ints_C (HF.out.b3 rfl) (by decide)) (Nat.le_refl _) dots_3).mono ?_
   rintro e V' ⟨u, rfl, hr, hb⟩
   obtain ⟨Au, cu, rfl⟩ := RD.slice hr
   exact hK _ _ ⟨l0, l1, l2, l3, l4, l5, l6, l7, true, true, true, false, l12, l13, false, l15, l16, g1, g2, g3, ga, A1, A2, Au, c1, c2, cu, rfl, rfl, ⟨⟨fun h => (by cases h), HF.out.ord3, HF.out.ord7, fun h => (by cases h), below_more HF.out.below hb, fun e => blk_keep (HF.out.b1 e) hb, fun e => RD.below' (HF.out.r1 e) hb, fun e => blk_keep (HF.out.b2 e) hb, fun e => RD.below' (HF.out.r2 e) hb, fun e => blk_keep (HF.out.b3 e) hb, fun _ => Kd.R_lower hr HF.out.below.size, fun h => (by cases h)⟩⟩⟩
  ·
   obtain rfl : l11 = false := (AnyOrder.mem_ready hi).2.1
   obtain rfl : l8 = true := AnyOrder.dep (q := 0) hi rfl rfl rfl
   obtain rfl : l10 = true := AnyOrder.dep (q := 1) hi rfl rfl rfl
   clear hi
   simp only [sel_true, selv_true] at hK ⊢
   refine AnyOrder.wpOp_go rfl (by rfl) ?_
   go_wp2_with fail
   exact ⟨l0, l1, l2, l3, l4, l5, l6, l7, true, l9, true, true, l12, l13, l14, l15, l16, g1, g2, g3, ga, A1, A2, A3, c1, c2, c3, rfl, rfl, ⟨⟨fun h => absurd (HF.out.ord h).2.2 (by simp), HF.out.ord3, HF.out.ord7, fun _ => rfl, HF.out.below, HF.out.b1, HF.out.r1, HF.out.b2, HF.out.r2, HF.out.b3, HF.out.r3, HF.out.arr⟩⟩⟩
  ·
   obtain rfl : l12 = false := (AnyOrder.mem_ready hi).2.1
   obtain rfl : l10 = true := AnyOrder.dep (q := 0) hi rfl rfl rfl
   clear hi
   simp only [sel_true, selv_true] at hK ⊢
   refine AnyOrder.wpOp_go rfl (by rfl) ?_
   go_wp2_with fail
   refine (redpencillaw11_at.calls _ _ _ _ V rfl).mono ?_
   rintro e V' ⟨rfl, hb⟩
   exact hK _ _ ⟨l0, l1, l2, l3, l4, l5, l6, l7, l8, l9, true, l11, true, l13, l14, l15, l16, g1, g2, g3, ga, A1, A2, A3, c1, c2, c3, rfl, rfl, ⟨⟨HF.out.ord, HF.out.ord3, HF.out.ord7, HF.out.ord11, below_more HF.out.below hb, fun e => blk_keep (HF.out.b1 e) hb, fun e => RD.below' (HF.out.r1 e) hb, fun e => blk_keep (HF.out.b2 e) hb, fun e => RD.below' (HF.out.r2 e) hb, fun e => blk_keep (HF.out.b3 e) hb, fun e => RD.below' (HF.out.r3 e) hb, fun e => blk_keep (HF.out.arr e) hb⟩⟩⟩
  ·
   obtain rfl : l13 = false := (AnyOrder.mem_ready hi).2.1
   obtain rfl : l12 = true := AnyOrder.dep (q := 0) hi rfl rfl rfl
   clear hi
   simp only [sel_true, selv_true] at hK ⊢
   refine AnyOrder.wpOp_go rfl (by rfl) ?_
   go_wp2_with fail
   exact ⟨l0, l1, l2, l3, l4, l5, l6, l7, l8, l9, l10, l11, true, true, l14, l15, l16, g1, g2, g3, ga, A1, A2, A3, c1, c2, c3, rfl, rfl, HF⟩
  ·
   obtain rfl : l14 = false := (AnyOrder.mem_ready hi).2.1
   obtain rfl : l3 = true := AnyOrder.dep (q := 0) hi rfl rfl rfl
   obtain rfl : l7 = true := AnyOrder.dep (q := 1) hi rfl rfl rfl
   obtain rfl : l11 = true := AnyOrder.dep (q := 2) hi rfl rfl rfl
   obtain rfl : l13 = true := AnyOrder.dep (q := 3) hi rfl rfl rfl
   clear hi
   simp only [sel_true, selv_true] at hK ⊢
   have hb := (Gr.alloc V (.cells #[.int .i64 0, .int .i64 0, .slice A1 2 c1, .int .i64 1, .int .i64 1, .slice A2 2 c2, .int .i64 9, .int .i64 9, .slice A3 1 c3, .int .i64 5, .int .i64 5, .slice none 0 0] 80 (0, 0))).below
   refine AnyOrder.wpOp_go rfl (by rfl) ?_
   go_wp2_with fail
   exact ⟨l0, l1, l2, true, l4, l5, l6, true, l8, l9, l10, true, l12, true, true, l15, l16, g1, g2, g3, V.heap.size, A1, A2, A3, c1, c2, c3, rfl, rfl, ⟨⟨fun _ => ⟨rfl, rfl, rfl⟩, HF.out.ord3, HF.out.ord7, HF.out.ord11, below_more HF.out.below hb, fun e => blk_keep (HF.out.b1 e) hb, fun e => RD.below' (HF.out.r1 e) hb, fun e => blk_keep (HF.out.b2 e) hb, fun e => RD.below' (HF.out.r2 e) hb, fun e => blk_keep (HF.out.b3 e) hb, fun e => RD.below' (HF.out.r3 e) hb, fun _ => blk_new _ _⟩⟩⟩
  ·
   obtain rfl : l15 = false := (AnyOrder.mem_ready hi).2.1
   obtain rfl : l14 = true := AnyOrder.dep (q := 0) hi rfl rfl rfl
   clear hi
   simp only [sel_true, selv_true] at hK ⊢
   refine AnyOrder.wpOp_go rfl (by rfl) ?_
   go_wp2_with fail
   exact ⟨l0, l1, l2, l3, l4, l5, l6, l7, l8, l9, l10, l11, l12, l13, true, true, l16, g1, g2, g3, ga, A1, A2, A3, c1, c2, c3, rfl, rfl, HF⟩
  ·
   obtain rfl : l16 = false := (AnyOrder.mem_ready hi).2.1
   clear hi
   refine AnyOrder.wpOp_go rfl (by rfl) ?_
   go_wp2_with fail
   exact ⟨l0, l1, l2, l3, l4, l5, l6, l7, l8, l9, l10, l11, l12, l13, l14, l15, true, g1, g2, g3, ga, A1, A2, A3, c1, c2, c3, rfl, rfl, HF⟩
 case last =>
  rintro L ac V ⟨l0, l1, l2, l3, l4, l5, l6, l7, l8, l9, l10, l11, l12, l13, l14, l15, l16, g1, g2, g3, ga, A1, A2, A3, c1, c2, c3, rfl, rfl, HF⟩ hr
  have hall := AnyOrder.all_listed rfl (by kernel_rfl) hr
  clear hr
  obtain rfl : l0 = true := hall 0 (by decide)
  obtain rfl : l1 = true := hall 1 (by decide)
  obtain rfl : l2 = true := hall 2 (by decide)
  obtain rfl : l3 = true := hall 3 (by decide)
  obtain rfl : l4 = true := hall 4 (by decide)
  obtain rfl : l5 = true := hall 5 (by decide)
  obtain rfl : l6 = true := hall 6 (by decide)
  obtain rfl : l7 = true := hall 7 (by decide)
  obtain rfl : l8 = true := hall 8 (by decide)
  obtain rfl : l9 = true := hall 9 (by decide)
  obtain rfl : l10 = true := hall 10 (by decide)
  obtain rfl : l11 = true := hall 11 (by decide)
  obtain rfl : l12 = true := hall 12 (by decide)
  obtain rfl : l13 = true := hall 13 (by decide)
  obtain rfl : l14 = true := hall 14 (by decide)
  obtain rfl : l15 = true := hall 15 (by decide)
  obtain rfl : l16 = true := hall 16 (by decide)
  clear hall
  simp only [sel_true, selv_true]
  have HA := Aside0.mk (And.intro (HF.out.arr rfl) (And.intro (HF.out.r1 rfl) (And.intro (HF.out.r2 rfl) (HF.out.r3 rfl))))
  have HB2 := Aside0.mk (below_more (below_drew1 (below_more HB1.out HBR.out)) HF.out.below)
  have HG2 : Aside0 (8 ≤ cg ∧ Kd.C k35 V Ag 8 GL) := ⟨HGL.out.1, Kd.C_below HGL.out.2 (below_more (below_drew1 HBR.out) HF.out.below)⟩
  clear HF HR0
  generalize V = W3 at *
  go_wp2
  go_loopw [27] (fun i wr => ∃ k : Nat, k ≤ 4 ∧ i = .int .i64 k ∧ Aside0 (Below W3.heap.size W3 wr)) (fun i _ => 4 - (intOf i).toNat)
  case atStart => exact ⟨0, by omega, rfl, ⟨Below.refl _ _⟩⟩
  case round =>
   obtain ⟨k, hk, rfl, HB⟩ := hrel
   by_cases hlt : k < 4
   ·
    have hltb : decide ((k : Int) < 4) = true := decide_eq_true (by omega)
    obtain ⟨Aw, cw, d0, d1, d2, hcw, hCw⟩ := arr_at (blk_keep HA.out.1 HB.out) (RD.below' HA.out.2.1 HB.out) (RD.below' HA.out.2.2.1 HB.out) (RD.below' HA.out.2.2.2 HB.out) hlt
    obtain ⟨nw, Hnw⟩ : ∃ nw, Aside0 ((kW k).length = nw) := ⟨_, ⟨rfl⟩⟩
    rw [Hnw.out] at d2 hcw hCw
    obtain ⟨x, Hx⟩ : ∃ x, Aside0 (kD k = x) := ⟨_, ⟨rfl⟩⟩
    rw [Hx.out] at d0 d1
    have HCW := Aside0.mk (And.intro hcw hCw)
    obtain ⟨Xb, HXe⟩ : ∃ Xb, Aside0 (wr.heap.size = Xb) := ⟨_, ⟨rfl⟩⟩
    obtain ⟨W5, HW5⟩ : ∃ W5, Aside0 (wr.alloc (.cells #[.int .i64 x.f0, .int .i64 x.f1, .slice Aw nw cw] 80 (0, 0)) = W5) := ⟨_, ⟨rfl⟩⟩
    have HX5 : Aside0 (W5.heap[Xb]? = some (.cells #[.int .i64 x.f0, .int .i64 x.f1, .slice Aw nw cw] 80 (0, 0))) := ⟨by rw [← HW5.out, ← HXe.out]; exact blk_new _ _⟩
    have HB5 : Aside0 (Below wr.heap.size wr W5) := ⟨by rw [← HW5.out]; exact (Gr.alloc _ _).below⟩
    have HBW := Aside0.mk (below_more HB.out HB5.out)
    have x0 : W5.cell? ⟨Xb, 0, none⟩ = _ := (blk_cell HX5.out 0).trans rfl
    have x1 : W5.cell? ⟨Xb, 1, none⟩ = _ := (blk_cell HX5.out 1).trans rfl
    have hch := walk_Children.calls Ag cg GL x.f0 x.f1 (kN k) 0 W5 (Kd.C_below HG2.out.2 HBW.out) HG2.out.1 (by rw [← Hx.out]; exact kids_k hlt)
    have HCH := Aside0.mk (show Calls Tryz.prog 17 #[.slice Ag 8 cg, .agg #[.int .i64 x.f0, .int .i64 x.f1]] W5 _ from hch)
    clear hch hcw hCw
    go_wp2_with fail
    rw [show wr.alloc (Obj.cells #[Value.int IntKind.i64 x.f0, Value.int IntKind.i64 x.f1, Value.slice Aw nw cw] 80) = W5 from HW5.out, show (Value.pointer (some { block := wr.heap.size, off := 0 })) = .pointer (some ⟨Xb, 0, none⟩) by rw [HXe.out]]
    go_wp2_with fail
    refine HCH.out.mono ?_
    rintro e W6 ⟨vc, rfl, hvc, hb⟩
    obtain ⟨Ac, cc, rfl⟩ := RN.slice hvc
    obtain ⟨nc, Hnc⟩ : ∃ nc, Aside0 ((kN k).length = nc) := ⟨_, ⟨rfl⟩⟩
    rw [Hnc.out] at hvc ⊢
    have HVC : Aside0 (nc ≤ cc ∧ Kd.C k35 W6 Ac nc (kN k)) := ⟨(RN.C hvc).2⟩
    have HB6 := Aside0.mk (below_more HBW.out hb)
    have HX6 := Aside0.mk (blk_keep HX5.out hb)
    have HC6 : Aside0 (nw ≤ cw ∧ Kd.C k24 W6 Aw nw (kW k)) := ⟨HCW.out.1, Kd.C_below HCW.out.2 (below_more HB5.out hb)⟩
    clear d0 d1 d2 x0 x1 hvc hb
    go_wp2_with fail
    refine AnyOrder.wp_region (by kernel_rfl) (kn6Inv W6.drew k Xb nc cc nw cw Ac Aw _ _ _ _ _ _ _ _ _ _ _ _ _ _ _ _ _ _ _ _ _ _ _ _ _ _ _ _ _ _ _ _ _ _ _ _ _ _ _ _ _ _ _ _ _ _ _ _ _ _ _ _ _ _ _ _ _ _ _ _ _ _ _ _ _ _ _ _ _ _ _ _ _ _ _ _ _ _ _ _ _ _ _ _ _ _ _ _ _ _ _ _ _ _ _ _ _ _ _ _ _) ⟨false, false, false, false, false, false, false, false, false, false, none, 0, rfl, rfl, ⟨⟨Below.refl _ _, fun h => (by cases h)⟩⟩⟩ ?step ?last
    case step =>
     rintro L ac V i ⟨l0, l1, l2, l3, l4, l5, l6, l7, l8, l9, An, cn, rfl, rfl, HF⟩ hi K hK
     have h1 : i = 0 ∨ i = 1 ∨ i = 2 ∨ i = 3 ∨ i = 4 ∨ i = 5 ∨ i = 6 ∨ i = 7 ∨ i = 8 ∨ i = 9 := by
      have h1 := (AnyOrder.mem_ready hi).1
      clear hi hK
      change i < 10 at h1
      omega
     rcases h1 with rfl | rfl | rfl | rfl | rfl | rfl | rfl | rfl | rfl | rfl
     ·
      obtain rfl : l0 = false := (AnyOrder.mem_ready hi).2.1
      clear hi
      refine AnyOrder.wpOp_go rfl (by rfl) ?_
      go_wp2_with fail
      exact ⟨true, l1, l2, l3, l4, l5, l6, l7, l8, l9, An, cn, rfl, rfl, HF⟩
     ·
      obtain rfl : l1 = false := (AnyOrder.mem_ready hi).2.1
      obtain rfl : l0 = true := AnyOrder.dep (q := 0) hi rfl rfl rfl
      clear hi
      simp only [sel_true, selv_true] at hK ⊢
      have hnm := redpencillaw11_names.calls 60 Ac cc (kN k) (kW k) V (by rw [Hnc.out]; exact Kd.C_below HVC.out.2 (below_more (below_drew1 (Below.refl _ W6)) HF.out.below)) (by rw [Hnc.out]; exact HVC.out.1) (names_k hlt)
      rw [Hnc.out] at hnm
      refine AnyOrder.wpOp_go rfl (by rfl) ?_
      go_wp2_with fail
      refine hnm.mono ?_
      rintro e V' ⟨u, rfl, hr, hb⟩
      obtain ⟨Au, cu, rfl⟩ := RD.slice hr
      rw [Hnw.out] at hr ⊢
      exact hK _ _ ⟨true, true, l2, l3, l4, l5, l6, l7, l8, l9, Au, cu, rfl, rfl, ⟨⟨below_more HF.out.below hb, fun _ => Kd.R_lower hr HF.out.below.size⟩⟩⟩
     ·
      obtain rfl : l2 = false := (AnyOrder.mem_ready hi).2.1
      clear hi
      refine AnyOrder.wpOp_go rfl (by rfl) ?_
      go_wp2_with fail
      exact ⟨l0, l1, true, l3, l4, l5, l6, l7, l8, l9, An, cn, rfl, rfl, HF⟩
     ·
      obtain rfl : l3 = false := (AnyOrder.mem_ready hi).2.1
      obtain rfl : l2 = true := AnyOrder.dep (q := 0) hi rfl rfl rfl
      clear hi
      simp only [sel_true, selv_true] at hK ⊢
      have hx := blk_keep (blk_drew HX6.out) HF.out.below
      have x2 : V.cell? ⟨Xb, 2, none⟩ = _ := (blk_cell hx 2).trans rfl
      refine AnyOrder.wpOp_go rfl (by rfl) ?_
      go_wp2_with fail
      exact ⟨l0, l1, true, true, l4, l5, l6, l7, l8, l9, An, cn, rfl, rfl, HF⟩
     ·
      obtain rfl : l4 = false := (AnyOrder.mem_ready hi).2.1
      obtain rfl : l1 = true := AnyOrder.dep (q := 0) hi rfl rfl rfl
      obtain rfl : l3 = true := AnyOrder.dep (q := 1) hi rfl rfl rfl
      clear hi
      simp only [sel_true, selv_true] at hK ⊢
      have hsm := redpencilref04_Same.calls 60 An cn (kW k) Aw cw (kW k) true V (by rw [Hnw.out]; exact (RD.C (HF.out.r1 rfl)).2.2) (by rw [Hnw.out]; exact (RD.C (HF.out.r1 rfl)).2.1) (by rw [Hnw.out]; exact Kd.C_below HC6.out.2 (below_more (below_drew1 (Below.refl _ W6)) HF.out.below)) (by rw [Hnw.out]; exact HC6.out.1) (same_k hlt)
      rw [Hnw.out] at hsm
      refine AnyOrder.wpOp_go rfl (by rfl) ?_
      go_wp2_with fail
      refine hsm.mono ?_
      rintro e V' ⟨rfl, hdr⟩
      have hb := (Gr.drawn hdr).below
      exact hK _ _ ⟨l0, true, l2, true, true, l5, l6, l7, l8, l9, An, cn, rfl, rfl, ⟨⟨below_more HF.out.below hb, fun e => RD.below' (HF.out.r1 e) hb⟩⟩⟩
     ·
      obtain rfl : l5 = false := (AnyOrder.mem_ready hi).2.1
      obtain rfl : l4 = true := AnyOrder.dep (q := 0) hi rfl rfl rfl
      clear hi
      simp only [sel_true, selv_true] at hK ⊢
      refine AnyOrder.wpOp_go rfl (by rfl) ?_
      go_wp2_with fail
      exact ⟨l0, l1, l2, l3, true, true, l6, l7, l8, l9, An, cn, rfl, rfl, HF⟩
     ·
      obtain rfl : l6 = false := (AnyOrder.mem_ready hi).2.1
      obtain rfl : l5 = true := AnyOrder.dep (q := 0) hi rfl rfl rfl
      obtain rfl : l4 = true := AnyOrder.dep (q := 1) hi rfl rfl rfl
      clear hi
      simp only [sel_true, selv_true] at hK ⊢
      refine AnyOrder.wpOp_go rfl (by rfl) ?_
      go_wp2_with fail
      exact ⟨l0, l1, l2, l3, true, true, true, l7, l8, l9, An, cn, rfl, rfl, HF⟩
     ·
      obtain rfl : l7 = false := (AnyOrder.mem_ready hi).2.1
      obtain rfl : l6 = true := AnyOrder.dep (q := 0) hi rfl rfl rfl
      clear hi
      simp only [sel_true, selv_true] at hK ⊢
      refine AnyOrder.wpOp_go rfl (by rfl) ?_
      go_wp2_with fail
      exact ⟨l0, l1, l2, l3, l4, l5, true, true, l8, l9, An, cn, rfl, rfl, HF⟩
     ·
      obtain rfl : l8 = false := (AnyOrder.mem_ready hi).2.1
      obtain rfl : l7 = true := AnyOrder.dep (q := 0) hi rfl rfl rfl
      obtain rfl : l6 = true := AnyOrder.dep (q := 1) hi rfl rfl rfl
      clear hi
      simp only [sel_true, selv_true] at hK ⊢
      refine AnyOrder.wpOp_go rfl (by rfl) ?_
      go_wp2_with fail
      exact ⟨l0, l1, l2, l3, l4, l5, true, true, true, l9, An, cn, rfl, rfl, HF⟩
     ·
      obtain rfl : l9 = false := (AnyOrder.mem_ready hi).2.1
      obtain rfl : l6 = true := AnyOrder.dep (q := 0) hi rfl rfl rfl
      obtain rfl : l8 = true := AnyOrder.dep (q := 1) hi rfl rfl rfl
      clear hi
      simp only [sel_true, selv_true] at hK ⊢
      refine AnyOrder.wpOp_go rfl (by rfl) ?_
      go_wp2_with fail
      exact ⟨l0, l1, l2, l3, l4, l5, true, l7, true, true, An, cn, rfl, rfl, HF⟩
    case last =>
     rintro L ac V ⟨l0, l1, l2, l3, l4, l5, l6, l7, l8, l9, An, cn, rfl, rfl, HF⟩ hr
     have hall := AnyOrder.all_listed rfl (by kernel_rfl) hr
     clear hr
     obtain rfl : l0 = true := hall 0 (by decide)
     obtain rfl : l1 = true := hall 1 (by decide)
     obtain rfl : l2 = true := hall 2 (by decide)
     obtain rfl : l3 = true := hall 3 (by decide)
     obtain rfl : l4 = true := hall 4 (by decide)
     obtain rfl : l5 = true := hall 5 (by decide)
     obtain rfl : l6 = true := hall 6 (by decide)
     obtain rfl : l7 = true := hall 7 (by decide)
     obtain rfl : l8 = true := hall 8 (by decide)
     obtain rfl : l9 = true := hall 9 (by decide)
     clear hall
     simp only [sel_true, selv_true]
     have HB7 := Aside0.mk (below_more (below_drew1 HB6.out) HF.out.below)
     clear HF
     go_wp2
     go_roundw
     case rel => exact ⟨k + 1, by omega, by go_num, HB7⟩
     case measure => simp [intOf] <;> omega
   ·
    obtain rfl : k = 4 := by omega
    have HGf : Aside0 (∀ W, Below W3.heap.size W3 W → Kd.C k35 W Ag 8 GL) := ⟨fun W h => Kd.C_below HG2.out.2 h⟩
    have HWF := Aside0.mk (fun W (h : Below W3.heap.size W3 W) => below_more HB2.out h)
    go_wp2_with fail
    refine (walk_Order.calls Ag cg GL OL 0 wr (HGf.out _ HB.out) HG2.out.1 order_k).mono ?_
    rintro e W7 ⟨vo, rfl, hvo, hb⟩
    obtain ⟨Ao, co, rfl⟩ := RN.slice hvo
    rw [show OL.length = 5 from rfl] at hvo ⊢
    have HVO : Aside0 (5 ≤ co ∧ Kd.C k35 W7 Ao 5 OL) := ⟨(RN.C hvo).2⟩
    have HB7 := Aside0.mk (below_more HB.out hb)
    clear hvo hb HA
    go_wp2_with fail
    refine (redpencillaw11_names.calls 60 Ao co OL _ W7 HVO.out.2 HVO.out.1 names_o).mono ?_
    rintro e W8 ⟨vn, rfl, hvn, hb⟩
    obtain ⟨An, cn, rfl⟩ := RD.slice hvn
    have HVN := Aside0.mk (RD.C hvn).2
    have HVO := Aside0.mk (And.intro HVO.out.1 (Kd.C_below HVO.out.2 hb))
    have HB8 := Aside0.mk (below_more HB7.out hb)
    clear hvn hb
    go_wp2_with fail
    refine (redpencillaw11_dots.calls 60 (some ⟨W8.heap.size, 0, none⟩) 10 [1, 4, 1, 1, 2, 2, 1, 2, 2, 3] _ _ (ints_C (blk_new _ _) (by decide)) (by decide) dots_4).mono ?_
    rintro e W9 ⟨vd4, rfl, hd, hb⟩
    obtain ⟨Ad4, cd4, rfl⟩ := RD.slice hd
    have Hd4 := Aside0.mk (RD.C hd).2
    have hb2 := below_more (Gr.alloc W8 (.cells (([1, 4, 1, 1, 2, 2, 1, 2, 2, 3] : List Int).map (Value.int .i64)).toArray 3 (0, 0))).below hb
    have HVN := Aside0.mk (And.intro HVN.out.1 (Kd.C_below HVN.out.2 hb2))
    have HVO := Aside0.mk (And.intro HVO.out.1 (Kd.C_below HVO.out.2 hb2))
    have HBW9 := Aside0.mk (below_more HB8.out hb2)
    clear hd hb hb2
    go_wp2_with fail
    refine (redpencilref04_Same.calls 60 An cn _ Ad4 cd4 _ true W9 HVN.out.2 HVN.out.1 Hd4.out.2 Hd4.out.1 same_o).mono ?_
    rintro e W10 ⟨rfl, hdr⟩
    have hb := (Gr.drawn hdr).below
    have HVO := Aside0.mk (And.intro HVO.out.1 (Kd.C_below HVO.out.2 hb))
    have HBW10 := Aside0.mk (below_more HBW9.out hb)
    clear hb hdr
    go_wp2_with fail
    have hal := (Gr.alloc W10 (.cells (([0, 0, 1, 1, 2] : List Int).map (Value.int .i64)).toArray 3 (0, 0))).below
    refine (redpencillaw11_goes.calls Ag cg GL Ao co OL (some ⟨W10.heap.size, 0, none⟩) 5 [0, 0, 1, 1, 2] (-1) true _ (HGf.out _ (below_more HBW10.out hal)) HG2.out.1 (Kd.C_below HVO.out.2 hal) HVO.out.1 (ints_C (blk_new _ _) (by decide)) (by decide) goes_o).mono ?_
    rintro e W11 ⟨rfl, hb⟩
    have HBW11 := Aside0.mk (below_more HBW10.out (below_more hal hb))
    clear hb hal HVO HVN
    go_wp2_with fail
    refine (redpencillaw11_dots.calls 60 (some ⟨W11.heap.size, 0, none⟩) 6 [3, 4, 3, 5, 3, 6] _ _ (ints_C (blk_new _ _) (by decide)) (by decide) dots_5).mono ?_
    rintro e W12 ⟨vd5, rfl, hd, hb⟩
    obtain ⟨Ad5, cd5, rfl⟩ := RD.slice hd
    have Hd5 := Aside0.mk (RD.C hd).2
    have hb2 := below_more (Gr.alloc W11 (.cells (([3, 4, 3, 5, 3, 6] : List Int).map (Value.int .i64)).toArray 3 (0, 0))).below hb
    have HBW12 := Aside0.mk (below_more HBW11.out hb2)
    clear hd hb hb2
    go_wp2_with fail
    refine (redpencillaw11_lost.calls 60 Ag cg GL Ad5 cd5 _ 0 true W12 (HGf.out _ HBW12.out) HG2.out.1 Hd5.out.2 Hd5.out.1 lost_o).mono ?_
    rintro e W13 ⟨rfl, hb⟩
    have HBW13 := Aside0.mk (below_more HBW12.out hb)
    clear hb
    go_wp2_with fail
    refine (redpencillaw11_at.calls _ _ _ _ W13 rfl).mono ?_
    rintro e W14 ⟨rfl, hb⟩
    have HBW14 := Aside0.mk (below_more HBW13.out hb)
    clear hb
    go_wp2_with fail
    refine (redpencillaw11_dots.calls 60 (some ⟨W14.heap.size, 0, none⟩) 6 [1, 1, 1, 2, 2, 3] _ _ (ints_C (blk_new _ _) (by decide)) (by decide) dots_6).mono ?_
    rintro e W15 ⟨vd6, rfl, hd, hb⟩
    obtain ⟨Ad6, cd6, rfl⟩ := RD.slice hd
    have Hd6 := Aside0.mk (RD.C hd).2
    have hb2 := below_more (Gr.alloc W14 (.cells (([1, 1, 1, 2, 2, 3] : List Int).map (Value.int .i64)).toArray 3 (0, 0))).below hb
    have HBW15 := Aside0.mk (below_more HBW14.out hb2)
    clear hd hb hb2
    go_wp2_with fail
    refine (redpencillaw11_path.calls 60 Ag cg GL 2 3 Ad6 cd6 _ 0 true W15 (HGf.out _ HBW15.out) HG2.out.1 Hd6.out.2 Hd6.out.1 path_1).mono ?_
    rintro e W16 ⟨rfl, hb⟩
    have HBW16 := Aside0.mk (below_more HBW15.out hb)
    clear hb
    go_wp2_with fail
    refine (redpencillaw11_at.calls _ _ _ _ W16 rfl).mono ?_
    rintro e W17 ⟨rfl, hb⟩
    have HBW17 := Aside0.mk (below_more HBW16.out hb)
    clear hb
    go_wp2_with fail
    refine (redpencillaw11_path.calls 60 Ag cg GL 3 5 none 0 [] 9 true W17 (HGf.out _ HBW17.out) HG2.out.1 nilD (Nat.le_refl _) path_2).mono ?_
    rintro e W18 ⟨rfl, hb⟩
    have HBW18 := Aside0.mk (below_more HBW17.out hb)
    clear hb
    go_wp2_with fail
    refine (redpencillaw11_at.calls _ _ _ _ W18 rfl).mono ?_
    rintro e W19 ⟨rfl, hb⟩
    have HBW19 := Aside0.mk (below_more HBW18.out hb)
    clear hb
    go_wp2_with fail
    refine (redpencillaw11_dots.calls 60 (some ⟨W19.heap.size, 0, none⟩) 6 [2, 2, 1, 2, 2, 3] _ _ (ints_C (blk_new _ _) (by decide)) (by decide) dots_7).mono ?_
    rintro e W20 ⟨vd7, rfl, hd, hb⟩
    obtain ⟨Ad7, cd7, rfl⟩ := RD.slice hd
    have Hd7 := Aside0.mk (RD.C hd).2
    have hb2 := below_more (Gr.alloc W19 (.cells (([2, 2, 1, 2, 2, 3] : List Int).map (Value.int .i64)).toArray 3 (0, 0))).below hb
    have HBW20 := Aside0.mk (below_more HBW19.out hb2)
    clear hd hb hb2
    go_wp2_with fail
    refine (redpencillaw11_below.calls 60 Ag cg GL 1 1 Ad7 cd7 _ 0 true W20 (HGf.out _ HBW20.out) HG2.out.1 Hd7.out.2 Hd7.out.1 below_1).mono ?_
    rintro e W21 ⟨rfl, hb⟩
    have HBW21 := Aside0.mk (below_more HBW20.out hb)
    clear hb
    go_wp2_with fail
    refine (redpencillaw11_at.calls _ _ _ _ W21 rfl).mono ?_
    rintro e W22 ⟨rfl, hb⟩
    have HBW22 := Aside0.mk (below_more HBW21.out hb)
    clear hb
    go_wp2_with fail
    refine (redpencillaw11_below.calls 60 Ag cg GL 2 3 none 0 [] 0 true W22 (HGf.out _ HBW22.out) HG2.out.1 nilD (Nat.le_refl _) below_2).mono ?_
    rintro e W23 ⟨rfl, hb⟩
    have HBW23 := Aside0.mk (below_more HBW22.out hb)
    clear hb
    go_wp2_with fail
    refine (redpencillaw11_at.calls _ _ _ _ W23 rfl).mono ?_
    rintro e W24 ⟨rfl, hb⟩
    have HBW24 := Aside0.mk (below_more HBW23.out hb)
    clear hb
    go_wp2_with fail
    refine (redpencillaw11_below.calls 60 Ag cg GL 9 9 none 0 [] 9 true W24 (HGf.out _ HBW24.out) HG2.out.1 nilD (Nat.le_refl _) below_3).mono ?_
    rintro e W25 ⟨rfl, hb⟩
    have HBW25 := Aside0.mk (below_more HBW24.out hb)
    clear hb
    go_wp2
    go_ret
    exact ⟨rfl, HWF.out _ HBW25.out⟩
end Go.Proofs.YtjlpaagnajmogaaGreat.PWalk
end
section
namespace Go.Proofs.YtjlpaagnajmogaaGreat.PWalk
open Go.RowKit Go.Proofs.YtjlpaagnajmogaaGreatW.PrintWords Go.Proofs.YtjlpaagnajmogaaGreatW.PrintLast Go.Proofs.YtjlpaagnajmogaaGreatW.PrintMore
set_option linter.unusedVariables false
set_option linter.unusedSimpArgs false
def redpencillaw11_ordered.f (k : Nat) (l0 : List (S35)) (l1 : List (S35)) (a2 : Int) : Option (Bool) := (walk_Order.f l0).bind fun bt222 => ((redpencilref10_Equal.f k bt222.1 l1).bind fun t226 => (if t226 = true then (some (bt222.2 == a2)) else (some false)))
set_option maxHeartbeats 8000000 in
set_option maxRecDepth 100000 in
theorem redpencillaw11_ordered.calls (k : Nat) (A0 : Option Addr) (c0 : Nat) (l0 : List (S35)) (A1 : Option Addr) (c1 : Nat) (l1 : List (S35)) (a2 : Int) (r : Bool) (w : World) (hr0 : Kd.C k35 w A0 l0.length l0) (hc0 : l0.length ≤ c0) (hr1 : Kd.C k35 w A1 l1.length l1) (hc1 : l1.length ≤ c1) (h : redpencillaw11_ordered.f k l0 l1 a2 = some r) :
  Calls Tryz.prog 20 #[.slice A0 l0.length c0, .slice A1 l1.length c1, .int .i64 a2] w fun e w' => e = .returned (.bool r) ∧ Below w.heap.size w w' := by
 have HR0 := Aside0.mk hr0
 have HC0 := Aside0.mk hc0
 clear hr0 hc0
 have HR1 := Aside0.mk hr1
 have HC1 := Aside0.mk hc1
 clear hr1 hc1
 have HB := Aside0.mk (Below.refl w.heap.size w)
 have H : ((walk_Order.f l0).bind fun bt222 => ((redpencilref10_Equal.f k bt222.1 l1).bind fun t226 => (if t226 = true then (some (bt222.2 == a2)) else (some false)))) = some r := h
 clear h
 replace H := Option.bind_eq_some_iff.mp H
 obtain ⟨⟨t222, t223⟩, A40, H⟩ := H
 replace H : ((redpencilref10_Equal.f k t222 l1).bind fun t226 => (if t226 = true then (some (t223 == a2)) else (some false))) = some r := H
 have A4 := Aside0.mk A40
 clear A40
 replace H := Option.bind_eq_some_iff.mp H
 obtain ⟨t226, A50, H⟩ := H
 replace H : (if t226 = true then (some (t223 == a2)) else (some false)) = some r := H
 have A5 := Aside0.mk A50
 clear A50
 by_cases c6 : t226 = true
 ·
  subst c6
  have H1 : (some (t223 == a2)) = some r := by rw [if_pos rfl] at H; exact H
  clear H
  have H := H1
  clear H1
  obtain rfl := Option.some.inj H
  go_enter Tryz.func20, Tryz.ntmps20
  go_wp2_with (first | ((with_reducible refine gate_callee (f := 50) rfl ?_); refine goesL_ (some 11) rfl rfl Tryz.func50 (by kernel_rfl) rfl #[.slice A0 l0.length c0] rfl (by (try simp only [List.map_toArray, List.map_cons, List.map_nil]); first | done | rfl | (simp only [List.length_drop, List.length_take]; rfl)) ?_; (with_reducible refine (walk_Order.calls _ _ l0 t222 t223 _ ?side1 ?side2 A4.out).mono ?_); (case side1 => repeat (first | exact HR0.out | (with_reducible refine Kd.C_alloc ?_ _) | (with_reducible refine Kd.C_drewN ?_ _) | (with_reducible refine Kd.C_drew ?_))); (case side2 => exact HC0.out); rintro e w7 ⟨v224, rfl, ho0, hb⟩; refine ⟨_, rfl, ?_⟩; have n0_ := Aside0.mk (Kd.R_lower ho0 (below_size (by repeat (first | (with_reducible first | exact HB.out | apply below_alloc | apply pw_below_drewN | apply below_drew1) | exact HB.out)))); have n1_ := Aside0.mk (below_step (by repeat (first | (with_reducible first | exact HB.out | apply below_alloc | apply pw_below_drewN | apply below_drew1) | exact HB.out)) hb); clear HB; have HO225 := n0_; have HB := n1_; clear n0_ n1_; (try clear hb); (try clear hb2); (try clear hk); (try clear hi); (try clear ho0); obtain ⟨Ao8, co8, eo8⟩ := Kd.R_slice HO225.out; subst eo8) | ((with_reducible refine gate_callee (f := 18) rfl ?_); refine goesL_ (some 16) rfl rfl Tryz.func18 (by kernel_rfl) rfl #[.slice Ao8 t222.length co8, .slice A1 l1.length c1] rfl (by (try simp only [List.map_toArray, List.map_cons, List.map_nil]); first | done | rfl | (simp only [List.length_drop, List.length_take]; rfl)) ?_; (with_reducible refine (redpencilref10_Equal.calls k _ _ t222 _ _ l1 true _ ?side1 ?side2 ?side3 ?side4 A5.out).mono ?_); (case side1 => repeat (first | exact (Kd.R_reads' HO225.out).2.2 | (with_reducible refine Kd.C_alloc ?_ _) | (with_reducible refine Kd.C_drewN ?_ _) | (with_reducible refine Kd.C_drew ?_))); (case side2 => exact (Kd.R_reads' HO225.out).2.1); (case side3 => repeat (first | exact (Kd.C_below HR1.out HB.out) | (with_reducible refine Kd.C_alloc ?_ _) | (with_reducible refine Kd.C_drewN ?_ _) | (with_reducible refine Kd.C_drew ?_))); (case side4 => exact HC1.out); rintro e w' ⟨rfl, ⟨nd, rfl⟩⟩; refine ⟨_, rfl, ?_⟩))
  go_ret
  exact ⟨by first | rfl | (simp [errW_none, errW_some] <;> rfl) | (simp [*, errW_none, errW_some] <;> rfl), by repeat (first | (with_reducible first | exact HB.out | apply below_alloc | apply pw_below_drewN | apply below_drew1) | exact HB.out)⟩
 ·
  replace c6 := Bool.eq_false_iff.mpr c6
  subst c6
  have H1 : (some false) = some r := by rw [if_neg (show ¬ (false = true) by decide)] at H; exact H
  clear H
  have H := H1
  clear H1
  obtain rfl := Option.some.inj H
  go_enter Tryz.func20, Tryz.ntmps20
  go_wp2_with (first | ((with_reducible refine gate_callee (f := 50) rfl ?_); refine goesL_ (some 11) rfl rfl Tryz.func50 (by kernel_rfl) rfl #[.slice A0 l0.length c0] rfl (by (try simp only [List.map_toArray, List.map_cons, List.map_nil]); first | done | rfl | (simp only [List.length_drop, List.length_take]; rfl)) ?_; (with_reducible refine (walk_Order.calls _ _ l0 t222 t223 _ ?side1 ?side2 A4.out).mono ?_); (case side1 => repeat (first | exact HR0.out | (with_reducible refine Kd.C_alloc ?_ _) | (with_reducible refine Kd.C_drewN ?_ _) | (with_reducible refine Kd.C_drew ?_))); (case side2 => exact HC0.out); rintro e w9 ⟨v224, rfl, ho0, hb⟩; refine ⟨_, rfl, ?_⟩; have n0_ := Aside0.mk (Kd.R_lower ho0 (below_size (by repeat (first | (with_reducible first | exact HB.out | apply below_alloc | apply pw_below_drewN | apply below_drew1) | exact HB.out)))); have n1_ := Aside0.mk (below_step (by repeat (first | (with_reducible first | exact HB.out | apply below_alloc | apply pw_below_drewN | apply below_drew1) | exact HB.out)) hb); clear HB; have HO225 := n0_; have HB := n1_; clear n0_ n1_; (try clear hb); (try clear hb2); (try clear hk); (try clear hi); (try clear ho0); obtain ⟨Ao10, co10, eo10⟩ := Kd.R_slice HO225.out; subst eo10) | ((with_reducible refine gate_callee (f := 18) rfl ?_); refine goesL_ (some 16) rfl rfl Tryz.func18 (by kernel_rfl) rfl #[.slice Ao10 t222.length co10, .slice A1 l1.length c1] rfl (by (try simp only [List.map_toArray, List.map_cons, List.map_nil]); first | done | rfl | (simp only [List.length_drop, List.length_take]; rfl)) ?_; (with_reducible refine (redpencilref10_Equal.calls k _ _ t222 _ _ l1 false _ ?side1 ?side2 ?side3 ?side4 A5.out).mono ?_); (case side1 => repeat (first | exact (Kd.R_reads' HO225.out).2.2 | (with_reducible refine Kd.C_alloc ?_ _) | (with_reducible refine Kd.C_drewN ?_ _) | (with_reducible refine Kd.C_drew ?_))); (case side2 => exact (Kd.R_reads' HO225.out).2.1); (case side3 => repeat (first | exact (Kd.C_below HR1.out HB.out) | (with_reducible refine Kd.C_alloc ?_ _) | (with_reducible refine Kd.C_drewN ?_ _) | (with_reducible refine Kd.C_drew ?_))); (case side4 => exact HC1.out); rintro e w' ⟨rfl, ⟨nd, rfl⟩⟩; refine ⟨_, rfl, ?_⟩))
  go_ret
  exact ⟨by first | rfl | (simp [errW_none, errW_some] <;> rfl) | (simp [*, errW_none, errW_some] <;> rfl), by repeat (first | (with_reducible first | exact HB.out | apply below_alloc | apply pw_below_drewN | apply below_drew1) | exact HB.out)⟩
end Go.Proofs.YtjlpaagnajmogaaGreat.PWalk
end
