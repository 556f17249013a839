/-
  The law WalkPaths: the walk and the row. Part 12 of 12.
-/
import Derived.Test.YtjlpaagnajmogaaGreatPK
import Derived.Test.YtjlpaagnajmogaaGreatRows
import Derived.WalkKit
import Derived.ProofKit
import Derived.OpenShut
import Derived.ShutString
import Derived.ChangeOld
import Derived.Below
import Derived.SizedLaws
import Derived.Deep.DeepHandedRow
import Derived.Deep.Slices
import Derived.Lib.SmallJoins
section
namespace Go.Proofs.YtjlpaagnajmogaaGreat.PWalk
open Go.RowKit Go.Proofs.YtjlpaagnajmogaaGreatW.PrintWords Go.Proofs.YtjlpaagnajmogaaGreatW.PrintLast Go.Proofs.YtjlpaagnajmogaaGreatW.PrintMore
set_option linter.unusedVariables false
set_option linter.unusedSimpArgs false
open Go.Shelf
attribute [local go_sem] Oper.semAt_some
theorem names_from (l : List Node) (hl : l.length ≤ 1000000) : ∀ (q k i : Nat), i + q = l.length → q < k → redpencilref10_Dots.l0 k l false ((l.take i).map (·.f0)) (i : Int) = some (l.map (·.f0)) := by
 intro q
 induction q with
 | zero =>
  intro k i hi hk
  obtain ⟨k, rfl⟩ : ∃ m, k = m + 1 := ⟨k - 1, by omega⟩
  simp only [redpencilref10_Dots.l0]
  rw [if_neg (by omega), List.take_of_length_le (by omega)]
 | succ q ih =>
  intro k i hi hk
  obtain ⟨k, rfl⟩ : ∃ m, k = m + 1 := ⟨k - 1, by omega⟩
  have hlt : i < l.length := by omega
  simp only [redpencilref10_Dots.l0]
  rw [if_pos (by omega), if_neg (by simp), if_pos (by omega), if_pos (by rw [List.length_map, List.length_take]; omega), rdN hlt, wrap_succ hlt hl]
  have h := ih k (i + 1) (by omega) (by omega)
  rw [List.take_succ_eq_append_getElem hlt, List.map_append] at h
  exact h
theorem names_is (l : List Node) (hl : l.length ≤ 1000000) (k : Nat) (hk : l.length < k) : redpencillaw11_names.f k l = some (l.map (·.f0)) := by
 unfold redpencillaw11_names.f redpencilref10_Dots.f
 have := names_from l hl l.length k 0 (by omega) hk
 simp only [List.take_zero, List.map_nil] at this
 rw [show ((0 : Nat) : Int) = 0 from rfl] at this
 rw [this]; rfl
theorem lost_no {l : List Node} (hl : l.length ≤ 40) (hs : storeOk l = false) : redpencillaw11_lost.f 1000 l [] 2 = some true := by
 unfold redpencillaw11_lost.f walk_Lost.f
 rw [if_pos (by omega), if_neg (by rw [hs]; simp)]
 simp only [Option.bind_some]
 rw [refSameD_is [] [] (by simp) 1000 (by simp)]; rfl
theorem lost_yes {l : List Node} (hl : l.length ≤ 40) (hs : storeOk l = true) : redpencillaw11_lost.f 1000 l (lostOf l) 0 = some true := by
 have hle : (lostOf l).length ≤ l.length := by unfold lostOf; rw [List.length_map]; exact List.length_filter_le _ _
 unfold redpencillaw11_lost.f walk_Lost.f
 rw [if_pos (by omega), if_pos hs]
 simp only [Option.bind_some]
 rw [refSameD_is _ _ (by omega) 1000 (by omega)]; simp
theorem path_bad {l : List Node} {d : Dot} (hl : l.length ≤ 40) (h : ¬ (storeOk l = true ∧ dotOk d = true)) : redpencillaw11_path.f 1000 l d.f0 d.f1 [] 2 = some true := by
 unfold redpencillaw11_path.f walk_Path.f
 rw [if_pos (by omega), if_neg h]
 simp only [Option.bind_some]
 rw [refSameD_is [] [] (by simp) 1000 (by simp)]; rfl
theorem path_no {l : List Node} {d : Dot} (hl : l.length ≤ 40) (hs : storeOk l = true) (hd : dotOk d = true) (hp : pathOf l d = none) : redpencillaw11_path.f 1000 l d.f0 d.f1 [] 9 = some true := by
 unfold redpencillaw11_path.f walk_Path.f
 rw [if_pos (by omega), if_pos ⟨hs, hd⟩, hp]
 simp only [Option.bind_some]
 rw [refSameD_is [] [] (by simp) 1000 (by simp)]; rfl
theorem path_yes {l : List Node} {d : Dot} {p : List Dot} (hl : l.length ≤ 40) (hs : storeOk l = true) (hd : dotOk d = true) (hp : pathOf l d = some p) : redpencillaw11_path.f 1000 l d.f0 d.f1 p 0 = some true := by
 obtain ⟨U, hU, rfl⟩ := pathOf_some (store_of hs) hp
 have hle := hU.le (store_of hs)
 unfold redpencillaw11_path.f walk_Path.f
 rw [if_pos (by omega), if_pos ⟨hs, hd⟩, hp]
 simp only [Option.bind_some]
 rw [refSameD_is _ _ (by rw [dotsR_length]; omega) 1000 (by rw [dotsR_length]; omega)]; simp
theorem below_bad {l : List Node} {d : Dot} (hl : l.length ≤ 40) (h : ¬ (storeOk l = true ∧ (dotOk d = true ∨ dotRoot d = true))) : redpencillaw11_below.f 1000 l d.f0 d.f1 [] 2 = some true := by
 unfold redpencillaw11_below.f walk_Below.f
 rw [if_pos (by omega), if_neg h]
 simp only [Option.bind_some]
 rw [refSameD_is [] [] (by simp) 1000 (by simp)]; rfl
theorem below_no {l : List Node} {d : Dot} (hl : l.length ≤ 40) (hs : storeOk l = true) (hd : dotOk d = true) (hp : pathOf l d = none) : redpencillaw11_below.f 1000 l d.f0 d.f1 [] 9 = some true := by
 unfold redpencillaw11_below.f walk_Below.f
 rw [if_pos (by omega), if_pos ⟨hs, .inl hd⟩, if_neg (by rw [hp]; simp)]
 simp only [Option.bind_some]
 rw [refSameD_is [] [] (by simp) 1000 (by simp)]; rfl
theorem below_yes {l : List Node} {d : Dot} (hl : l.length ≤ 40) (hs : storeOk l = true) (hd : dotOk d = true ∨ dotRoot d = true) (hp : (pathOf l d).isSome = true) : redpencillaw11_below.f 1000 l d.f0 d.f1 ((belowL l d).map (·.f0)) 0 = some true := by
 obtain ⟨p, hp'⟩ := Option.isSome_iff_exists.1 hp
 obtain ⟨U, hU, _⟩ := pathOf_some (store_of hs) hp'
 have hle := below_le (store_of hs) hU 0
 have hle2 : (belowOf l 0 ⟨d.f0, d.f1⟩).length ≤ l.length := hle
 have he : (belowL l d).map (·.f0) = (belowOf l 0 d).map (·.2.f0) := by unfold belowL nds; rw [List.map_map]; rfl
 unfold redpencillaw11_below.f walk_Below.f
 rw [if_pos (by omega), if_pos ⟨hs, hd⟩, if_pos hp, he]
 simp only [Option.bind_some]
 rw [refSameD_is _ _ (by rw [List.length_map]; omega) 1000 (by rw [List.length_map]; omega)]; simp
theorem root_some {l : List Node} (hs : storeOk l = true) : (pathOf l ⟨0, 0⟩).isSome = true := by
 rw [pathOf_path (store_of hs) Path.root]; rfl
theorem below_root {l : List Node} (hl : l.length ≤ 40) (hs : storeOk l = true) : redpencillaw11_below.f 1000 l 0 0 ((belowL l ⟨0, 0⟩).map (·.f0)) 0 = some true :=
 below_yes (d := ⟨0, 0⟩) hl hs (.inr (by decide)) (root_some hs)
theorem path_root {l : List Node} (hl : l.length ≤ 40) : redpencillaw11_path.f 1000 l 0 0 [] 2 = some true :=
 path_bad (d := ⟨0, 0⟩) hl (fun h => absurd h.2 (by decide))
/-- What has come up where the path and what is below are compared. -/
structure RpF (W0 : World) (ll : List Node) (d : Dot) (Ab An : Option Addr) (nb cb cn : Nat) (l9 l10 : Bool) (V : World) : Prop where
 below : Below W0.heap.size W0 V
 r1 : l9 = true → RN V W0.heap.size (.slice Ab nb cb) (belowL ll d)
 r2 : l10 = true → RD V W0.heap.size (.slice An nb cn) ((belowL ll d).map (·.f0))
def rp14Inv (w W0 : World) (A0 Ap : Option Addr) (n c0 B np cp nb : Nat) (ll : List Node) (d : Dot) (z1 z2 z6 z7 z8 z9 z10 z11 z12 z13 z14 z15 z16 z17 z18 z19 z20 z21 z22 z23 z24 z25 z26 z27 z28 z29 z30 z31 z32 z33 z34 z35 z36 z37 z38 z39 z40 z41 z42 z43 z44 z45 z46 z47 z48 z49 z50 z51 z52 z53 z54 z55 z56 z57 z58 z59 z60 z61 z62 z63 z64 z65 z66 z67 z68 z69 z70 z71 z72 z73 z74 z75 z76 z77 z78 z79 z80 z81 z82 z83 z84 z85 z86 z87 z88 z89 z90 z91 z92 z93 z94 z95 z96 z97 z98 z99 z100 : Value) (L : Array Bool) (ac : Act) (V : World) : Prop := ∃ (l0 l1 l2 l3 l4 l5 l6 l7 l8 l9 l10 l11 l12 l13 l14 l15 l16 : Bool) (Ab : Option Addr) (An : Option Addr) (cb : Nat) (cn : Nat), L = #[l0, l1, l2, l3, l4, l5, l6, l7, l8, l9, l10, l11, l12, l13, l14, l15, l16] ∧ ac = { tmps := #[.slice A0 n c0, z1, z2, .pointer (some ⟨B, 0, none⟩), selv l16 (.bool true) (.bool false), .slice Ap np cp, z6, z7, z8, z9, z10, z11, z12, z13, z14, z15, z16, z17, z18, z19, z20, z21, z22, z23, z24, z25, z26, z27, z28, z29, z30, z31, z32, z33, z34, z35, z36, z37, z38, z39, z40, z41, z42, z43, z44, z45, z46, z47, z48, z49, z50, z51, z52, z53, z54, z55, z56, z57, z58, z59, z60, z61, z62, z63, z64, z65, z66, z67, z68, z69, z70, z71, z72, z73, z74, z75, z76, z77, z78, z79, z80, z81, z82, z83, z84, selv l0 (.slice A0 n c0) (z85), selv l1 (vDot d) (z86), selv l2 (.slice Ap np cp) (z87), selv l3 (.bool true) (z88), selv l4 (.bool true) (z89), selv l5 (.slice A0 n c0) (z90), selv l6 (vDot d) (z91), selv l7 (.slice A0 n c0) (z92), selv l8 (vDot d) (z93), selv l9 (.slice Ab nb cb) (z94), selv l10 (.slice An nb cn) (z95), selv l11 (.bool true) (z96), selv l12 (.bool true) (z97), selv l13 (.bool true) (z98), selv l14 (.bool true) (z99), selv l15 (.bool true) (z100)], defers := [] } ∧ Aside0 (RpF W0 ll d Ab An nb cb cn l9 l10 V)
set_option maxHeartbeats 4000000 in
set_option maxRecDepth 100000 in
theorem WalkPaths.walk (A0 : Option Addr) (c0 : Nat) (ll : List Node) (w : World) (hr0 : Kd.C k35 w A0 ll.length ll) (hc0 : ll.length ≤ c0) (hi : ∀ x ∈ ll, runeIn x.f3) (d : Dot) :
  Calls Tryz.prog 5 #[.slice A0 ll.length c0, vDot d] w fun e w' => e = .returned (.bool true) ∧ Below w.heap.size w w' := by
 have HR := Aside0.mk hr0
 have HC := Aside0.mk hc0
 have HX := Aside0.mk (blk_new w (dotC d))
 have HB := Aside0.mk (Gr.alloc w (dotC d)).below
 obtain ⟨n, Hn⟩ : ∃ n, Aside0 (ll.length = n) := ⟨_, ⟨rfl⟩⟩
 by_cases h40 : ll.length > 40
 ·
  have hb2 : decide ((40 : Int) < (n : Int)) = true := decide_eq_true (by have := Hn.out; omega)
  have hb3 : decide ((n : Int) > 40) = true := decide_eq_true (by have := Hn.out; omega)
  rw [Hn.out]
  clear hr0 hc0 hi h40
  go_enter Tryz.func5, Tryz.ntmps5
  go_wp2_with fail
  refine (known_walk _).mono ?_
  rintro e W3 ⟨rfl, hd⟩
  go_wp2
  go_ret
  exact ⟨rfl, below_more HB.out hd⟩
 have HL : Aside0 (ll.length ≤ 40) := ⟨by omega⟩
 have hb2 : decide ((40 : Int) < (n : Int)) = false := decide_eq_false (by have := Hn.out; omega)
 have hb3 : decide ((n : Int) > 40) = false := decide_eq_false (by have := Hn.out; omega)
 have HLOST : Aside0 (∀ W, Below w.heap.size w W → ∀ (A : Option Addr) (c : Nat) (ds : List Dot) (no : Int), Kd.C k24 W A ds.length ds → ds.length ≤ c → redpencillaw11_lost.f 1000 ll ds no = some true → Calls Tryz.prog 24 #[.slice A0 n c0, .slice A ds.length c, .int .i64 no] W fun e W' => e = .returned (.bool true) ∧ Below W.heap.size W W') := ⟨fun W hb A c ds no h1 h2 h3 => by rw [← Hn.out]; exact redpencillaw11_lost.calls 1000 A0 c0 ll A c ds no true W (Kd.C_below HR.out hb) HC.out h1 h2 h3⟩
 have HPATH : Aside0 (∀ (e : Dot) W, Below w.heap.size w W → ∀ (A : Option Addr) (c : Nat) (ds : List Dot) (no : Int), Kd.C k24 W A ds.length ds → ds.length ≤ c → redpencillaw11_path.f 1000 ll e.f0 e.f1 ds no = some true → Calls Tryz.prog 25 #[.slice A0 n c0, vDot e, .slice A ds.length c, .int .i64 no] W fun e W' => e = .returned (.bool true) ∧ Below W.heap.size W W') := ⟨fun e W hb A c ds no h1 h2 h3 => by rw [← Hn.out]; exact redpencillaw11_path.calls 1000 A0 c0 ll e.f0 e.f1 A c ds no true W (Kd.C_below HR.out hb) HC.out h1 h2 h3⟩
 have HBELOW : Aside0 (∀ (e : Dot) W, Below w.heap.size w W → ∀ (A : Option Addr) (c : Nat) (ds : List Dot) (no : Int), Kd.C k24 W A ds.length ds → ds.length ≤ c → redpencillaw11_below.f 1000 ll e.f0 e.f1 ds no = some true → Calls Tryz.prog 26 #[.slice A0 n c0, vDot e, .slice A ds.length c, .int .i64 no] W fun e W' => e = .returned (.bool true) ∧ Below W.heap.size W W') := ⟨fun e W hb A c ds no h1 h2 h3 => by rw [← Hn.out]; exact redpencillaw11_below.calls 1000 A0 c0 ll e.f0 e.f1 A c ds no true W (Kd.C_below HR.out hb) HC.out h1 h2 h3⟩
 obtain ⟨b, Hb⟩ : ∃ b, Aside0 (storeOk ll = b) := ⟨_, ⟨rfl⟩⟩
 have hval := redpencilref10_Valid.calls 1000 A0 c0 ll b (w.alloc (dotC d)) (Kd.C_below hr0 HB.out) hc0 (by rw [refValid_is ll (by omega) hi 1000 (by omega), Hb.out])
 rw [Hn.out] at hval ⊢
 have HVAL := Aside0.mk hval
 clear hr0 hc0 hi h40 hval
 have x0 : (w.alloc (dotC d)).cell? ⟨w.heap.size, 0, none⟩ = _ := (blk_cell HX.out 0).trans rfl
 have x1 : (w.alloc (dotC d)).cell? ⟨w.heap.size, 1, none⟩ = _ := (blk_cell HX.out 1).trans rfl
 go_enter Tryz.func5, Tryz.ntmps5
 go_wp2_with fail
 refine (HVAL.out).mono ?_
 rintro e V1 ⟨rfl, hb⟩
 have HX := Aside0.mk (blk_keep HX.out hb)
 have HB := Aside0.mk (below_more HB.out hb)
 clear hb x0 x1
 have x0 : V1.cell? ⟨w.heap.size, 0, none⟩ = _ := (blk_cell HX.out 0).trans rfl
 have x1 : V1.cell? ⟨w.heap.size, 1, none⟩ = _ := (blk_cell HX.out 1).trans rfl
 clear HVAL
 cases b with
 | false =>
  go_wp2_with fail
  refine (HLOST.out V1 HB.out none 0 [] 2 nilD (Nat.le_refl _) (lost_no HL.out Hb.out)).mono ?_
  rintro e V2 ⟨rfl, hb⟩
  have HX := Aside0.mk (blk_keep HX.out hb)
  have HB := Aside0.mk (below_more HB.out hb)
  clear hb x0 x1
  have x0 : V2.cell? ⟨w.heap.size, 0, none⟩ = _ := (blk_cell HX.out 0).trans rfl
  have x1 : V2.cell? ⟨w.heap.size, 1, none⟩ = _ := (blk_cell HX.out 1).trans rfl
  go_wp2_with fail
  refine (HPATH.out d V2 HB.out none 0 [] 2 nilD (Nat.le_refl _) (path_bad HL.out (fun h => by rw [Hb.out] at h; cases h.1))).mono ?_
  rintro e V3 ⟨rfl, hb⟩
  have HX := Aside0.mk (blk_keep HX.out hb)
  have HB := Aside0.mk (below_more HB.out hb)
  clear hb x0 x1
  have x0 : V3.cell? ⟨w.heap.size, 0, none⟩ = _ := (blk_cell HX.out 0).trans rfl
  have x1 : V3.cell? ⟨w.heap.size, 1, none⟩ = _ := (blk_cell HX.out 1).trans rfl
  go_wp2_with fail
  refine (HBELOW.out d V3 HB.out none 0 [] 2 nilD (Nat.le_refl _) (below_bad HL.out (fun h => by rw [Hb.out] at h; cases h.1))).mono ?_
  rintro e V4 ⟨rfl, hb⟩
  have HX := Aside0.mk (blk_keep HX.out hb)
  have HB := Aside0.mk (below_more HB.out hb)
  clear hb x0 x1
  have x0 : V4.cell? ⟨w.heap.size, 0, none⟩ = _ := (blk_cell HX.out 0).trans rfl
  have x1 : V4.cell? ⟨w.heap.size, 1, none⟩ = _ := (blk_cell HX.out 1).trans rfl
  go_wp2_with fail
  refine (known_walk V4).mono ?_
  rintro e V5 ⟨rfl, hb⟩
  have HX := Aside0.mk (blk_keep HX.out hb)
  have HB := Aside0.mk (below_more HB.out hb)
  clear hb x0 x1
  have x0 : V5.cell? ⟨w.heap.size, 0, none⟩ = _ := (blk_cell HX.out 0).trans rfl
  have x1 : V5.cell? ⟨w.heap.size, 1, none⟩ = _ := (blk_cell HX.out 1).trans rfl
  go_wp2
  go_ret
  exact ⟨rfl, HB.out⟩
 | true =>
  have HS : Aside0 (storeOk ll = true) := Hb
  have HLO := Aside0.mk (fun V (hb : Below w.heap.size w V) => redpencilref11_Lost.calls A0 c0 ll (lostOf ll) V (Kd.C_below HR.out hb) HC.out (by unfold redpencilref11_Lost.f; rw [if_pos ⟨by have := HL.out; omega, HS.out⟩]))
  have HOR := Aside0.mk (fun V (hb : Below w.heap.size w V) => redpencilref11_Order.calls A0 c0 ll (belowL ll ⟨0, 0⟩) V (Kd.C_below HR.out hb) HC.out (order_is (by have := HL.out; omega) HS.out))
  rw [Hn.out] at HLO HOR
  go_wp2_with fail
  refine (HLO.out V1 HB.out).mono ?_
  rintro e V2 ⟨u, rfl, hr, hb⟩
  obtain ⟨Al, cl, rfl⟩ := RD.slice hr
  have HLC := Aside0.mk (RD_C hr)
  have HX := Aside0.mk (blk_keep HX.out hb)
  have HB := Aside0.mk (below_more HB.out hb)
  clear hb hr x0 x1
  have x0 : V2.cell? ⟨w.heap.size, 0, none⟩ = _ := (blk_cell HX.out 0).trans rfl
  have x1 : V2.cell? ⟨w.heap.size, 1, none⟩ = _ := (blk_cell HX.out 1).trans rfl
  go_wp2_with fail
  refine (HLOST.out V2 HB.out Al cl (lostOf ll) 0 HLC.out.2.2 HLC.out.2.1 (lost_yes HL.out HS.out)).mono ?_
  rintro e V3 ⟨rfl, hb⟩
  have HX := Aside0.mk (blk_keep HX.out hb)
  have HB := Aside0.mk (below_more HB.out hb)
  clear hb x0 x1
  have x0 : V3.cell? ⟨w.heap.size, 0, none⟩ = _ := (blk_cell HX.out 0).trans rfl
  have x1 : V3.cell? ⟨w.heap.size, 1, none⟩ = _ := (blk_cell HX.out 1).trans rfl
  go_wp2_with fail
  refine (HOR.out V3 HB.out).mono ?_
  rintro e V4 ⟨u, rfl, hr, hb⟩
  obtain ⟨Ao, co, rfl⟩ := RN.slice hr
  have HOC := Aside0.mk (RN.C hr).2
  have HX := Aside0.mk (blk_keep HX.out hb)
  have HB := Aside0.mk (below_more HB.out hb)
  clear hb hr x0 x1
  have x0 : V4.cell? ⟨w.heap.size, 0, none⟩ = _ := (blk_cell HX.out 0).trans rfl
  have x1 : V4.cell? ⟨w.heap.size, 1, none⟩ = _ := (blk_cell HX.out 1).trans rfl
  have HOL : Aside0 ((belowL ll ⟨0, 0⟩).length ≤ 40) := ⟨Nat.le_trans (belowL_le (store_of HS.out) Path.root) HL.out⟩
  go_wp2_with fail
  refine (redpencillaw11_names.calls 1000 Ao co (belowL ll ⟨0, 0⟩) ((belowL ll ⟨0, 0⟩).map (·.f0)) V4 HOC.out.2 HOC.out.1 (names_is _ (by have := HOL.out; omega) 1000 (by have := HOL.out; omega))).mono ?_
  rintro e V5 ⟨u, rfl, hr, hb⟩
  obtain ⟨An, cn, rfl⟩ := RD.slice hr
  have HNC := Aside0.mk (RD.C hr).2
  have HX := Aside0.mk (blk_keep HX.out hb)
  have HB := Aside0.mk (below_more HB.out hb)
  clear hb hr x0 x1
  have x0 : V5.cell? ⟨w.heap.size, 0, none⟩ = _ := (blk_cell HX.out 0).trans rfl
  have x1 : V5.cell? ⟨w.heap.size, 1, none⟩ = _ := (blk_cell HX.out 1).trans rfl
  go_wp2_with fail
  have hcall := HBELOW.out ⟨0, 0⟩ V5 HB.out An cn ((belowL ll ⟨0, 0⟩).map (·.f0)) 0 HNC.out.2 HNC.out.1 (below_root HL.out HS.out)
  rw [List.length_map] at hcall
  refine hcall.mono ?_
  clear hcall
  rintro e V6 ⟨rfl, hb⟩
  have HX := Aside0.mk (blk_keep HX.out hb)
  have HB := Aside0.mk (below_more HB.out hb)
  clear hb x0 x1
  have x0 : V6.cell? ⟨w.heap.size, 0, none⟩ = _ := (blk_cell HX.out 0).trans rfl
  have x1 : V6.cell? ⟨w.heap.size, 1, none⟩ = _ := (blk_cell HX.out 1).trans rfl
  go_wp2_with fail
  refine (HPATH.out ⟨0, 0⟩ V6 HB.out none 0 [] 2 nilD (Nat.le_refl _) (path_root HL.out)).mono ?_
  rintro e V7 ⟨rfl, hb⟩
  have HX := Aside0.mk (blk_keep HX.out hb)
  have HB := Aside0.mk (below_more HB.out hb)
  clear hb x0 x1
  have x0 : V7.cell? ⟨w.heap.size, 0, none⟩ = _ := (blk_cell HX.out 0).trans rfl
  have x1 : V7.cell? ⟨w.heap.size, 1, none⟩ = _ := (blk_cell HX.out 1).trans rfl
  obtain ⟨b1, Hb1⟩ : ∃ b, Aside0 (dotRoot d = b) := ⟨_, ⟨rfl⟩⟩
  go_wp2_with fail
  refine (redpencilref04_Root.calls d.f0 d.f1 b1 V7 (by rw [refRoot_is, Hb1.out])).mono ?_
  rintro e V8 ⟨rfl, hb⟩
  have HX := Aside0.mk (blk_keep HX.out hb)
  have HB := Aside0.mk (below_more HB.out hb)
  clear hb x0 x1
  have x0 : V8.cell? ⟨w.heap.size, 0, none⟩ = _ := (blk_cell HX.out 0).trans rfl
  have x1 : V8.cell? ⟨w.heap.size, 1, none⟩ = _ := (blk_cell HX.out 1).trans rfl
  cases b1 with
  | true =>
   go_wp2_with fail
   refine (known_walk V8).mono ?_
   rintro e V9 ⟨rfl, hb⟩
   have HX := Aside0.mk (blk_keep HX.out hb)
   have HB := Aside0.mk (below_more HB.out hb)
   clear hb x0 x1
   have x0 : V9.cell? ⟨w.heap.size, 0, none⟩ = _ := (blk_cell HX.out 0).trans rfl
   have x1 : V9.cell? ⟨w.heap.size, 1, none⟩ = _ := (blk_cell HX.out 1).trans rfl
   go_wp2
   go_ret
   exact ⟨rfl, HB.out⟩
  | false =>
   obtain ⟨b2, HD⟩ : ∃ b, Aside0 (dotOk d = b) := ⟨_, ⟨rfl⟩⟩
   go_wp2_with fail
   refine (redpencilref04_Valid.calls d.f0 d.f1 b2 V8 (by rw [refDot_is, HD.out])).mono ?_
   rintro e V9 ⟨rfl, hb⟩
   have HX := Aside0.mk (blk_keep HX.out hb)
   have HB := Aside0.mk (below_more HB.out hb)
   clear hb x0 x1
   have x0 : V9.cell? ⟨w.heap.size, 0, none⟩ = _ := (blk_cell HX.out 0).trans rfl
   have x1 : V9.cell? ⟨w.heap.size, 1, none⟩ = _ := (blk_cell HX.out 1).trans rfl
   cases b2 with
   | false =>
    go_wp2_with fail
    refine (HPATH.out d V9 HB.out none 0 [] 2 nilD (Nat.le_refl _) (path_bad HL.out (fun h => by rw [HD.out] at h; cases h.2))).mono ?_
    rintro e V10 ⟨rfl, hb⟩
    have HX := Aside0.mk (blk_keep HX.out hb)
    have HB := Aside0.mk (below_more HB.out hb)
    clear hb x0 x1
    have x0 : V10.cell? ⟨w.heap.size, 0, none⟩ = _ := (blk_cell HX.out 0).trans rfl
    have x1 : V10.cell? ⟨w.heap.size, 1, none⟩ = _ := (blk_cell HX.out 1).trans rfl
    go_wp2_with fail
    refine (HBELOW.out d V10 HB.out none 0 [] 2 nilD (Nat.le_refl _) (below_bad HL.out (fun h => by rw [HD.out, Hb1.out] at h; rcases h.2 with h | h <;> cases h))).mono ?_
    rintro e V11 ⟨rfl, hb⟩
    have HX := Aside0.mk (blk_keep HX.out hb)
    have HB := Aside0.mk (below_more HB.out hb)
    clear hb x0 x1
    have x0 : V11.cell? ⟨w.heap.size, 0, none⟩ = _ := (blk_cell HX.out 0).trans rfl
    have x1 : V11.cell? ⟨w.heap.size, 1, none⟩ = _ := (blk_cell HX.out 1).trans rfl
    go_wp2_with fail
    refine (known_walk V11).mono ?_
    rintro e V12 ⟨rfl, hb⟩
    have HX := Aside0.mk (blk_keep HX.out hb)
    have HB := Aside0.mk (below_more HB.out hb)
    clear hb x0 x1
    have x0 : V12.cell? ⟨w.heap.size, 0, none⟩ = _ := (blk_cell HX.out 0).trans rfl
    have x1 : V12.cell? ⟨w.heap.size, 1, none⟩ = _ := (blk_cell HX.out 1).trans rfl
    go_wp2
    go_ret
    exact ⟨rfl, HB.out⟩
   | true =>
    have hpi := refPath_is ll (by have := HL.out; omega) d 1000 (by have := HL.out; omega)
    cases hp : pathOf ll d with
    | none =>
     rw [hp] at hpi
     have HP := Aside0.mk hp
     have hpc := fun V (hb : Below w.heap.size w V) => redpencilref11_Path.calls 1000 A0 c0 ll d.f0 d.f1 [] false V (Kd.C_below HR.out hb) HC.out hpi
     rw [Hn.out] at hpc
     have HPC := Aside0.mk hpc
     clear hpc hpi hp
     go_wp2_with fail
     refine (HPC.out V9 HB.out).mono ?_
     rintro e V10 ⟨u, rfl, hr, hb⟩
     obtain ⟨Ap, cp, rfl⟩ := RD.slice hr
     have HX := Aside0.mk (blk_keep HX.out hb)
     have HB := Aside0.mk (below_more HB.out hb)
     clear hb hr x0 x1
     have x0 : V10.cell? ⟨w.heap.size, 0, none⟩ = _ := (blk_cell HX.out 0).trans rfl
     have x1 : V10.cell? ⟨w.heap.size, 1, none⟩ = _ := (blk_cell HX.out 1).trans rfl
     go_wp2_with fail
     refine (HPATH.out d V10 HB.out none 0 [] 9 nilD (Nat.le_refl _) (path_no HL.out HS.out HD.out HP.out)).mono ?_
     rintro e V11 ⟨rfl, hb⟩
     have HX := Aside0.mk (blk_keep HX.out hb)
     have HB := Aside0.mk (below_more HB.out hb)
     clear hb x0 x1
     have x0 : V11.cell? ⟨w.heap.size, 0, none⟩ = _ := (blk_cell HX.out 0).trans rfl
     have x1 : V11.cell? ⟨w.heap.size, 1, none⟩ = _ := (blk_cell HX.out 1).trans rfl
     go_wp2_with fail
     refine (HBELOW.out d V11 HB.out none 0 [] 9 nilD (Nat.le_refl _) (below_no HL.out HS.out HD.out HP.out)).mono ?_
     rintro e V12 ⟨rfl, hb⟩
     have HX := Aside0.mk (blk_keep HX.out hb)
     have HB := Aside0.mk (below_more HB.out hb)
     clear hb x0 x1
     have x0 : V12.cell? ⟨w.heap.size, 0, none⟩ = _ := (blk_cell HX.out 0).trans rfl
     have x1 : V12.cell? ⟨w.heap.size, 1, none⟩ = _ := (blk_cell HX.out 1).trans rfl
     go_wp2_with fail
     refine (known_walk V12).mono ?_
     rintro e V13 ⟨rfl, hb⟩
     have HX := Aside0.mk (blk_keep HX.out hb)
     have HB := Aside0.mk (below_more HB.out hb)
     clear hb x0 x1
     have x0 : V13.cell? ⟨w.heap.size, 0, none⟩ = _ := (blk_cell HX.out 0).trans rfl
     have x1 : V13.cell? ⟨w.heap.size, 1, none⟩ = _ := (blk_cell HX.out 1).trans rfl
     go_wp2
     go_ret
     exact ⟨rfl, HB.out⟩
    | some ps =>
     rw [hp] at hpi
     have HP := Aside0.mk hp
     have hpc := fun V (hb : Below w.heap.size w V) => redpencilref11_Path.calls 1000 A0 c0 ll d.f0 d.f1 ps true V (Kd.C_below HR.out hb) HC.out hpi
     rw [Hn.out] at hpc
     have HPC := Aside0.mk hpc
     clear hpc hpi hp
     go_wp2_with fail
     refine (HPC.out V9 HB.out).mono ?_
     rintro e W9 ⟨u, rfl, hr, hb⟩
     obtain ⟨Ap, cp, rfl⟩ := RD.slice hr
     obtain ⟨np, Hnp⟩ : ∃ np, Aside0 (ps.length = np) := ⟨_, ⟨rfl⟩⟩
     rw [Hnp.out] at hr ⊢
     have HPS : Aside0 (np ≤ cp ∧ Kd.C k24 W9 Ap np ps) := ⟨(RD.C hr).2⟩
     have HXR := Aside0.mk (blk_drew (blk_keep HX.out hb))
     have HBR := Aside0.mk (below_drew1 (below_more HB.out hb))
     obtain ⟨nb, Hnb⟩ : ∃ nb, Aside0 ((belowL ll d).length = nb) := ⟨_, ⟨rfl⟩⟩
     have HnbD : Aside0 (((belowL ll d).map (·.f0)).length = nb) := ⟨by rw [List.length_map]; exact Hnb.out⟩
     have HBF : Aside0 (redpencilref11_Below.f ll d.f0 d.f1 = some (belowL ll d)) := ⟨by unfold redpencilref11_Below.f; rw [if_pos ⟨by have := HL.out; omega, HS.out, by rw [HP.out]; rfl⟩]⟩
     have HNM : Aside0 (redpencillaw11_names.f 1000 (belowL ll d) = some ((belowL ll d).map (·.f0))) := ⟨by
      obtain ⟨U, hU, _⟩ := pathOf_some (store_of HS.out) HP.out
      have := belowL_le (store_of HS.out) hU
      have := HL.out
      exact names_is _ (by omega) 1000 (by omega)⟩
     clear hb hr x0 x1
     go_wp2_with fail
     refine AnyOrder.wp_region (by kernel_rfl) (rp14Inv w W9.drew A0 Ap n c0 w.heap.size np cp nb ll d _ _ _ _ _ _ _ _ _ _ _ _ _ _ _ _ _ _ _ _ _ _ _ _ _ _ _ _ _ _ _ _ _ _ _ _ _ _ _ _ _ _ _ _ _ _ _ _ _ _ _ _ _ _ _ _ _ _ _ _ _ _ _ _ _ _ _ _ _ _ _ _ _ _ _ _ _ _ _ _ _ _ _ _ _ _ _ _ _ _ _ _ _ _ _ _ _) ⟨false, false, false, false, false, false, false, false, false, false, false, false, false, false, false, false, false, none, none, 0, 0, rfl, rfl, ⟨⟨Below.refl _ _, fun h => (by cases h), fun h => (by cases h)⟩⟩⟩ ?step ?last
     case step =>
      rintro L ac V i ⟨l0, l1, l2, l3, l4, l5, l6, l7, l8, l9, l10, l11, l12, l13, l14, l15, l16, Ab, An, cb, cn, rfl, rfl, HF⟩ hi K hK
      have h1 : i = 0 ∨ i = 1 ∨ i = 2 ∨ i = 3 ∨ i = 4 ∨ i = 5 ∨ i = 6 ∨ i = 7 ∨ i = 8 ∨ i = 9 ∨ i = 10 ∨ i = 11 ∨ i = 12 ∨ i = 13 ∨ i = 14 ∨ i = 15 ∨ i = 16 := by
       have h1 := (AnyOrder.mem_ready hi).1
       clear hi hK
       change i < 17 at h1
       omega
      rcases h1 with rfl | rfl | rfl | rfl | rfl | rfl | rfl | rfl | rfl | rfl | rfl | rfl | rfl | rfl | rfl | rfl | rfl
      ·
       obtain rfl : l0 = false := (AnyOrder.mem_ready hi).2.1
       clear hi
       refine AnyOrder.wpOp_go rfl (by rfl) ?_
       go_wp2_with fail
       exact ⟨true, l1, l2, l3, l4, l5, l6, l7, l8, l9, l10, l11, l12, l13, l14, l15, l16, Ab, An, cb, cn, rfl, rfl, HF⟩
      ·
       obtain rfl : l1 = false := (AnyOrder.mem_ready hi).2.1
       clear hi
       have hx := blk_keep HXR.out HF.out.below
       have x0 : V.cell? ⟨w.heap.size, 0, none⟩ = _ := (blk_cell hx 0).trans rfl
       have x1 : V.cell? ⟨w.heap.size, 1, none⟩ = _ := (blk_cell hx 1).trans rfl
       refine AnyOrder.wpOp_go rfl (by rfl) ?_
       go_wp2_with fail
       exact ⟨l0, true, l2, l3, l4, l5, l6, l7, l8, l9, l10, l11, l12, l13, l14, l15, l16, Ab, An, cb, cn, rfl, rfl, HF⟩
      ·
       obtain rfl : l2 = false := (AnyOrder.mem_ready hi).2.1
       clear hi
       refine AnyOrder.wpOp_go rfl (by rfl) ?_
       go_wp2_with fail
       exact ⟨l0, l1, true, l3, l4, l5, l6, l7, l8, l9, l10, l11, l12, l13, l14, l15, l16, Ab, An, cb, cn, rfl, rfl, HF⟩
      ·
       obtain rfl : l3 = false := (AnyOrder.mem_ready hi).2.1
       obtain rfl : l0 = true := AnyOrder.dep (q := 0) hi rfl rfl rfl
       obtain rfl : l1 = true := AnyOrder.dep (q := 1) hi rfl rfl rfl
       obtain rfl : l2 = true := AnyOrder.dep (q := 2) hi rfl rfl rfl
       clear hi
       simp only [sel_true, selv_true] at hK ⊢
       have hpc := HPATH.out d V (below_more HBR.out HF.out.below) Ap cp ps 0 (by rw [Hnp.out]; exact Kd.C_below HPS.out.2 (below_more (below_drew1 (Below.refl _ _)) HF.out.below)) (by rw [Hnp.out]; exact HPS.out.1) (path_yes HL.out HS.out HD.out HP.out)
       rw [Hnp.out] at hpc
       refine AnyOrder.wpOp_go rfl (by rfl) ?_
       go_wp2_with fail
       refine hpc.mono ?_
       rintro e V' ⟨rfl, hb⟩
       exact hK _ _ ⟨true, true, true, true, l4, l5, l6, l7, l8, l9, l10, l11, l12, l13, l14, l15, l16, Ab, An, cb, cn, rfl, rfl, ⟨⟨below_more HF.out.below hb, fun e => RN.below' (HF.out.r1 e) hb, fun e => RD.below' (HF.out.r2 e) hb⟩⟩⟩
      ·
       obtain rfl : l4 = false := (AnyOrder.mem_ready hi).2.1
       obtain rfl : l3 = true := AnyOrder.dep (q := 0) hi rfl rfl rfl
       clear hi
       simp only [sel_true, selv_true] at hK ⊢
       refine AnyOrder.wpOp_go rfl (by rfl) ?_
       go_wp2_with fail
       exact ⟨l0, l1, l2, true, true, l5, l6, l7, l8, l9, l10, l11, l12, l13, l14, l15, l16, Ab, An, cb, cn, rfl, rfl, HF⟩
      ·
       obtain rfl : l5 = false := (AnyOrder.mem_ready hi).2.1
       obtain rfl : l4 = true := AnyOrder.dep (q := 0) hi rfl rfl rfl
       clear hi
       simp only [sel_true, selv_true] at hK ⊢
       refine AnyOrder.wpOp_go rfl (by rfl) ?_
       go_wp2_with fail
       exact ⟨l0, l1, l2, l3, true, true, l6, l7, l8, l9, l10, l11, l12, l13, l14, l15, l16, Ab, An, cb, cn, rfl, rfl, HF⟩
      ·
       obtain rfl : l6 = false := (AnyOrder.mem_ready hi).2.1
       obtain rfl : l4 = true := AnyOrder.dep (q := 0) hi rfl rfl rfl
       clear hi
       simp only [sel_true, selv_true] at hK ⊢
       have hx := blk_keep HXR.out HF.out.below
       have x0 : V.cell? ⟨w.heap.size, 0, none⟩ = _ := (blk_cell hx 0).trans rfl
       have x1 : V.cell? ⟨w.heap.size, 1, none⟩ = _ := (blk_cell hx 1).trans rfl
       refine AnyOrder.wpOp_go rfl (by rfl) ?_
       go_wp2_with fail
       exact ⟨l0, l1, l2, l3, true, l5, true, l7, l8, l9, l10, l11, l12, l13, l14, l15, l16, Ab, An, cb, cn, rfl, rfl, HF⟩
      ·
       obtain rfl : l7 = false := (AnyOrder.mem_ready hi).2.1
       obtain rfl : l4 = true := AnyOrder.dep (q := 0) hi rfl rfl rfl
       clear hi
       simp only [sel_true, selv_true] at hK ⊢
       refine AnyOrder.wpOp_go rfl (by rfl) ?_
       go_wp2_with fail
       exact ⟨l0, l1, l2, l3, true, l5, l6, true, l8, l9, l10, l11, l12, l13, l14, l15, l16, Ab, An, cb, cn, rfl, rfl, HF⟩
      ·
       obtain rfl : l8 = false := (AnyOrder.mem_ready hi).2.1
       obtain rfl : l4 = true := AnyOrder.dep (q := 0) hi rfl rfl rfl
       clear hi
       simp only [sel_true, selv_true] at hK ⊢
       have hx := blk_keep HXR.out HF.out.below
       have x0 : V.cell? ⟨w.heap.size, 0, none⟩ = _ := (blk_cell hx 0).trans rfl
       have x1 : V.cell? ⟨w.heap.size, 1, none⟩ = _ := (blk_cell hx 1).trans rfl
       refine AnyOrder.wpOp_go rfl (by rfl) ?_
       go_wp2_with fail
       exact ⟨l0, l1, l2, l3, true, l5, l6, l7, true, l9, l10, l11, l12, l13, l14, l15, l16, Ab, An, cb, cn, rfl, rfl, HF⟩
      ·
       obtain rfl : l9 = false := (AnyOrder.mem_ready hi).2.1
       obtain rfl : l7 = true := AnyOrder.dep (q := 0) hi rfl rfl rfl
       obtain rfl : l8 = true := AnyOrder.dep (q := 1) hi rfl rfl rfl
       obtain rfl : l4 = true := AnyOrder.dep (q := 2) hi rfl rfl rfl
       clear hi
       simp only [sel_true, selv_true] at hK ⊢
       have hbc := redpencilref11_Below.calls A0 c0 ll d.f0 d.f1 (belowL ll d) V (Kd.C_below HR.out (below_more HBR.out HF.out.below)) HC.out HBF.out
       rw [Hn.out] at hbc
       refine AnyOrder.wpOp_go rfl (by rfl) ?_
       go_wp2_with fail
       refine hbc.mono ?_
       rintro e V' ⟨u, rfl, hr, hb⟩
       obtain ⟨Au, cu, rfl⟩ := RN.slice hr
       rw [Hnb.out] at hr ⊢
       exact hK _ _ ⟨l0, l1, l2, l3, true, l5, l6, true, true, true, l10, l11, l12, l13, l14, l15, l16, Au, An, cu, cn, rfl, rfl, ⟨⟨below_more HF.out.below hb, fun _ => Kd.R_lower hr HF.out.below.size, fun e => RD.below' (HF.out.r2 e) hb⟩⟩⟩
      ·
       obtain rfl : l10 = false := (AnyOrder.mem_ready hi).2.1
       obtain rfl : l9 = true := AnyOrder.dep (q := 0) hi rfl rfl rfl
       obtain rfl : l4 = true := AnyOrder.dep (q := 2) hi rfl rfl rfl
       clear hi
       simp only [sel_true, selv_true] at hK ⊢
       have hnc := redpencillaw11_names.calls 1000 Ab cb (belowL ll d) ((belowL ll d).map (·.f0)) V (by rw [Hnb.out]; exact (RN.C (HF.out.r1 rfl)).2.2) (by rw [Hnb.out]; exact (RN.C (HF.out.r1 rfl)).2.1) HNM.out
       rw [Hnb.out] at hnc
       refine AnyOrder.wpOp_go rfl (by rfl) ?_
       go_wp2_with fail
       refine hnc.mono ?_
       rintro e V' ⟨u, rfl, hr, hb⟩
       obtain ⟨Au, cu, rfl⟩ := RD.slice hr
       rw [HnbD.out] at hr ⊢
       exact hK _ _ ⟨l0, l1, l2, l3, true, l5, l6, l7, l8, true, true, l11, l12, l13, l14, l15, l16, Ab, Au, cb, cu, rfl, rfl, ⟨⟨below_more HF.out.below hb, fun e => RN.below' (HF.out.r1 e) hb, fun _ => Kd.R_lower hr HF.out.below.size⟩⟩⟩
      ·
       obtain rfl : l11 = false := (AnyOrder.mem_ready hi).2.1
       obtain rfl : l5 = true := AnyOrder.dep (q := 0) hi rfl rfl rfl
       obtain rfl : l6 = true := AnyOrder.dep (q := 1) hi rfl rfl rfl
       obtain rfl : l10 = true := AnyOrder.dep (q := 2) hi rfl rfl rfl
       obtain rfl : l4 = true := AnyOrder.dep (q := 4) hi rfl rfl rfl
       clear hi
       simp only [sel_true, selv_true] at hK ⊢
       have hbl := HBELOW.out d V (below_more HBR.out HF.out.below) An cn ((belowL ll d).map (·.f0)) 0 (by rw [HnbD.out]; exact (RD.C (HF.out.r2 rfl)).2.2) (by rw [HnbD.out]; exact (RD.C (HF.out.r2 rfl)).2.1) (below_yes HL.out HS.out (.inl HD.out) (by rw [HP.out]; rfl))
       rw [HnbD.out] at hbl
       refine AnyOrder.wpOp_go rfl (by rfl) ?_
       go_wp2_with fail
       refine hbl.mono ?_
       rintro e V' ⟨rfl, hb⟩
       exact hK _ _ ⟨l0, l1, l2, l3, true, true, true, l7, l8, l9, true, true, l12, l13, l14, l15, l16, Ab, An, cb, cn, rfl, rfl, ⟨⟨below_more HF.out.below hb, fun e => RN.below' (HF.out.r1 e) hb, fun e => RD.below' (HF.out.r2 e) hb⟩⟩⟩
      ·
       obtain rfl : l12 = false := (AnyOrder.mem_ready hi).2.1
       obtain rfl : l4 = true := AnyOrder.dep (q := 0) hi rfl rfl rfl
       obtain rfl : l11 = true := AnyOrder.dep (q := 1) hi rfl rfl rfl
       clear hi
       simp only [sel_true, selv_true] at hK ⊢
       refine AnyOrder.wpOp_go rfl (by rfl) ?_
       go_wp2_with fail
       exact ⟨l0, l1, l2, l3, true, l5, l6, l7, l8, l9, l10, true, true, l13, l14, l15, l16, Ab, An, cb, cn, rfl, rfl, HF⟩
      ·
       obtain rfl : l13 = false := (AnyOrder.mem_ready hi).2.1
       obtain rfl : l12 = true := AnyOrder.dep (q := 0) hi rfl rfl rfl
       obtain rfl : l11 = true := AnyOrder.dep (q := 1) hi rfl rfl rfl
       clear hi
       simp only [sel_true, selv_true] at hK ⊢
       refine AnyOrder.wpOp_go rfl (by rfl) ?_
       go_wp2_with fail
       exact ⟨l0, l1, l2, l3, l4, l5, l6, l7, l8, l9, l10, true, true, true, l14, l15, l16, Ab, An, cb, cn, rfl, rfl, HF⟩
      ·
       obtain rfl : l14 = false := (AnyOrder.mem_ready hi).2.1
       obtain rfl : l13 = true := AnyOrder.dep (q := 0) hi rfl rfl rfl
       clear hi
       simp only [sel_true, selv_true] at hK ⊢
       refine AnyOrder.wpOp_go rfl (by rfl) ?_
       go_wp2_with fail
       refine (known_walk V).mono ?_
       rintro e V' ⟨rfl, hb⟩
       exact hK _ _ ⟨l0, l1, l2, l3, l4, l5, l6, l7, l8, l9, l10, l11, l12, true, true, l15, l16, Ab, An, cb, cn, rfl, rfl, ⟨⟨below_more HF.out.below hb, fun e => RN.below' (HF.out.r1 e) hb, fun e => RD.below' (HF.out.r2 e) hb⟩⟩⟩
      ·
       obtain rfl : l15 = false := (AnyOrder.mem_ready hi).2.1
       obtain rfl : l13 = true := AnyOrder.dep (q := 0) hi rfl rfl rfl
       obtain rfl : l14 = true := AnyOrder.dep (q := 1) hi rfl rfl rfl
       clear hi
       simp only [sel_true, selv_true] at hK ⊢
       refine AnyOrder.wpOp_go rfl (by rfl) ?_
       go_wp2_with fail
       exact ⟨l0, l1, l2, l3, l4, l5, l6, l7, l8, l9, l10, l11, l12, true, true, true, l16, Ab, An, cb, cn, rfl, rfl, HF⟩
      ·
       obtain rfl : l16 = false := (AnyOrder.mem_ready hi).2.1
       obtain rfl : l15 = true := AnyOrder.dep (q := 0) hi rfl rfl rfl
       obtain rfl : l14 = true := AnyOrder.dep (q := 1) hi rfl rfl rfl
       obtain rfl : l0 = true := AnyOrder.dep (q := 2) hi rfl rfl rfl
       obtain rfl : l1 = true := AnyOrder.dep (q := 3) hi rfl rfl rfl
       obtain rfl : l2 = true := AnyOrder.dep (q := 4) hi rfl rfl rfl
       obtain rfl : l3 = true := AnyOrder.dep (q := 5) hi rfl rfl rfl
       obtain rfl : l4 = true := AnyOrder.dep (q := 6) hi rfl rfl rfl
       obtain rfl : l5 = true := AnyOrder.dep (q := 7) hi rfl rfl rfl
       obtain rfl : l6 = true := AnyOrder.dep (q := 8) hi rfl rfl rfl
       obtain rfl : l7 = true := AnyOrder.dep (q := 9) hi rfl rfl rfl
       obtain rfl : l8 = true := AnyOrder.dep (q := 10) hi rfl rfl rfl
       obtain rfl : l9 = true := AnyOrder.dep (q := 11) hi rfl rfl rfl
       obtain rfl : l10 = true := AnyOrder.dep (q := 12) hi rfl rfl rfl
       obtain rfl : l11 = true := AnyOrder.dep (q := 13) hi rfl rfl rfl
       obtain rfl : l12 = true := AnyOrder.dep (q := 14) hi rfl rfl rfl
       obtain rfl : l13 = true := AnyOrder.dep (q := 15) hi rfl rfl rfl
       clear hi
       simp only [sel_true, selv_true] at hK ⊢
       refine AnyOrder.wpOp_go rfl (by rfl) ?_
       go_wp2_with fail
       exact ⟨true, true, true, true, true, true, true, true, true, true, true, true, true, true, true, true, true, Ab, An, cb, cn, rfl, rfl, HF⟩
     case last =>
      rintro L ac V ⟨l0, l1, l2, l3, l4, l5, l6, l7, l8, l9, l10, l11, l12, l13, l14, l15, l16, Ab, An, cb, cn, rfl, rfl, HF⟩ hr
      have hall := AnyOrder.all_listed rfl (by kernel_rfl) hr
      clear hr
      obtain rfl : l0 = true := hall 0 (by decide)
      obtain rfl : l1 = true := hall 1 (by decide)
      obtain rfl : l2 = true := hall 2 (by decide)
      obtain rfl : l3 = true := hall 3 (by decide)
      obtain rfl : l4 = true := hall 4 (by decide)
      obtain rfl : l5 = true := hall 5 (by decide)
      obtain rfl : l6 = true := hall 6 (by decide)
      obtain rfl : l7 = true := hall 7 (by decide)
      obtain rfl : l8 = true := hall 8 (by decide)
      obtain rfl : l9 = true := hall 9 (by decide)
      obtain rfl : l10 = true := hall 10 (by decide)
      obtain rfl : l11 = true := hall 11 (by decide)
      obtain rfl : l12 = true := hall 12 (by decide)
      obtain rfl : l13 = true := hall 13 (by decide)
      obtain rfl : l14 = true := hall 14 (by decide)
      obtain rfl : l15 = true := hall 15 (by decide)
      obtain rfl : l16 = true := hall 16 (by decide)
      clear hall
      simp only [sel_true, selv_true]
      have HBE := Aside0.mk (below_more HBR.out HF.out.below)
      clear HF
      go_wp2
      go_ret
      exact ⟨rfl, HBE.out⟩
end Go.Proofs.YtjlpaagnajmogaaGreat.PWalk
end
section
namespace Go.Proofs.YtjlpaagnajmogaaGreat.walkPaths
open Go.ChangeShapes Go.WideShapes Go.ChangeAt Go.RowKit
open Go.ChangeMaps (open_string shut_string)
open Go.Proofs.YtjlpaagnajmogaaGreatW.PrintWords
set_option linter.unusedVariables false
theorem six_of {α : Type} {cs : List α} (h : cs.length = 6) : ∃ c0 c1 c2 c3 c4 c5, cs = [c0, c1, c2, c3, c4, c5] := by
 match cs, h with
 | [a, b, c, d, e, f], _ => exact ⟨a, b, c, d, e, f, rfl⟩
theorem open_node {H : Type} {enc : TypeId × Value → H} {W : World} {base : Nat} {sp : Nat → Bool} {held : Bool} {fuel : Nat} {cs : List Value} {x : DataW H × List MemPlace} (h : DataW.trod enc Tryz.prog W base sp held fuel 35 cs = some x) :
  ∃ n : PWalk.Node, cs = PWalk.nodeCells n ∧ PWalk.runeIn n.f3 := by
 have e37 : Tryz.prog.cellsOf 35 = 6 := by kernel_rfl
 have e35 : Tryz.prog.cellsOf 24 = 2 := by kernel_rfl
 have e3 : Tryz.prog.cellsOf 3 = 1 := by kernel_rfl
 have e21 : Tryz.prog.cellsOf 21 = 1 := by kernel_rfl
 obtain ⟨y0, y1, y2, y3, n, rfl, hl, h0, h1, h2, h3⟩ := Go.Joins.trod_struct4 Tryz.underlying35 h
 rw [e37] at hl
 obtain ⟨c0, c1, c2, c3, c4, c5, rfl⟩ := six_of hl
 simp only [e35, e3, e21, List.drop_zero, List.drop_succ_cons, List.take_succ_cons, List.take_zero] at h0 h1 h2 h3
 obtain ⟨_, _, _, _, _, g0, g1⟩ := trod_struct2 Tryz.underlying24 h0
 obtain ⟨_, _, _, _, _, g2, g3⟩ := trod_struct2 Tryz.underlying24 h1
 simp only [e3, List.drop_zero, List.drop_succ_cons, List.take_succ_cons, List.take_zero] at g0 g1 g2 g3
 obtain ⟨k0, i0, _, _⟩ := DataW.trod_int Tryz.underlying3 g0
 obtain ⟨k1, i1, _, _⟩ := DataW.trod_int Tryz.underlying3 g1
 obtain ⟨k2, i2, _, _⟩ := DataW.trod_int Tryz.underlying3 g2
 obtain ⟨k3, i3, _, _⟩ := DataW.trod_int Tryz.underlying3 g3
 obtain ⟨k4, i4, _, _⟩ := DataW.trod_int Tryz.underlying3 h2
 obtain ⟨k5, i5, _, hw⟩ := DataW.trod_int Tryz.underlying21 h3
 simp only [List.cons.injEq, and_true] at i0 i1 i2 i3 i4 i5
 subst i0 i1 i2 i3 i4 i5
 refine ⟨⟨⟨k0, k1⟩, ⟨k2, k3⟩, k4, k5⟩, rfl, ?_⟩
 have hw2 : -2147483648 ≤ k5 ∧ k5 ≤ 2147483647 := by simpa [Lit.wf, IntKind.min, IntKind.max, IntKind.signed, IntKind.bits] using hw
 exact ⟨by show _ ≤ k5; omega, by show k5 ≤ _; omega⟩
/-- A []api.Node that came in, nil or not. -/
theorem open_nodes {H : Type} {enc : TypeId × Value → H} {W : World} {A : Option Addr} {len cap : Nat} {x : DataW H × List MemPlace} {fuel : Nat} (h : DataW.trod enc Tryz.prog W 0 (fun _ => true) true fuel 22 [.slice A len cap] = some x) :
  ∃ xs : List PWalk.Node, xs.length = len ∧ Kd.C PWalk.k35 W A len xs ∧ len ≤ cap ∧ ∀ n ∈ xs, PWalk.runeIn n.f3 := by
 have e37 : Tryz.prog.cellsOf 35 = 6 := by kernel_rfl
 rcases Go.Deep.open_slice Tryz.underlying22 h with ⟨hcs, _⟩ | ⟨a, len', cap', m, n, D, Pl, hcs, _, hl, hm, hmm, _, hx⟩
 ·
  simp at hcs
  obtain ⟨rfl, rfl, rfl⟩ := hcs
  exact ⟨[], rfl, ⟨rfl, by omega, fun hp => absurd hp (by omega)⟩, Nat.le_refl _, fun n hn => by cases hn⟩
 ·
  simp at hcs
  obtain ⟨rfl, rfl, rfl⟩ := hcs
  simp only [if_true] at hmm
  subst hmm
  rw [e37] at hx
  haveI : Inhabited PWalk.Node := ⟨⟨⟨0, 0⟩, ⟨0, 0⟩, 0, 0⟩⟩
  obtain ⟨N, hN⟩ := Go.Deep.choose_lt (α := PWalk.Node) (n := len) (p := fun i nd => PWalk.runeIn nd.f3 ∧ ∀ j u, (PWalk.nodeCells nd)[j]? = some u → W.cell? (a.add (i * 6 + j)) = some u) (fun i hi => by
   obtain ⟨cs', h1, h2⟩ := hx i (by omega)
   obtain ⟨nd, rfl, hr⟩ := open_node h2
   refine ⟨nd, hr, fun j u hu => ?_⟩
   obtain ⟨_, hlen, hc⟩ := World.cells?_some h1
   have hj : j < 6 := (List.getElem?_eq_some_iff.1 hu).1
   rw [← Addr.add_add a (i * 6) j]
   rw [← hu]
   exact hc j (by simpa using hj))
  refine ⟨(List.range len).map N, by simp, ⟨by simp, Nat.le_trans hl hm, fun hp => ⟨a, rfl, fun i nd hi => ?_⟩⟩, hl, fun nd hnd => ?_⟩
  ·
   have hil : i < len := by simpa using (List.getElem?_eq_some_iff.1 hi).1
   have hnd : nd = N i := by simpa [hil] using hi.symm
   subst hnd
   refine ⟨PWalk.nodeCells (N i), rfl, PWalk.k35.K_of_M (PWalk.k35_mkM W 0 (fun _ => True) (N i)), fun j u hu => (hN i hil).2 j u hu⟩
  ·
   obtain ⟨i, hi, rfl⟩ := List.mem_map.1 hnd
   exact (hN i (by simpa using hi)).1
set_option maxRecDepth 100000 in
/-- An api.Dot that came in by value: it is read the same in every world. -/
theorem open_dot {H : Type} {enc : TypeId × Value → H} {W : World} {r : Reach} {b0 base : Nat} {sp : Nat → Bool} {held : Bool} {v : Value} {d : DataW H} {p : List MemPlace} (hv : Value.okWide Tryz.prog W r b0 24 v) (h : DataW.Trod enc Tryz.prog W base sp held 24 v d p) :
  ∃ a : PWalk.Dot, v = .agg #[.int .i64 a.f0, .int .i64 a.f1] ∧ ∀ (W' : World) (base' : Nat) (sp' : Nat → Bool) (held' : Bool), DataW.Trod enc Tryz.prog W' base' sp' held' 24 v d p := by
 obtain ⟨v0, v1, y0, y1, n, rfl, rfl, rfl, h0, h1⟩ := Go.Joins.open_agg2 Tryz.underlying24 (by kernel_rfl) (by kernel_rfl) hv h
 obtain ⟨k0, i0, e0, w0⟩ := DataW.trod_int Tryz.underlying3 h0
 obtain ⟨k1, i1, e1, w1⟩ := DataW.trod_int Tryz.underlying3 h1
 simp only [List.cons.injEq, and_true] at i0 i1
 subst i0 i1 e0 e1
 refine ⟨⟨k0, k1⟩, rfl, fun W' base' sp' held' => ?_⟩
 exact Go.Joins.shut_agg2 Tryz.underlying24 (by kernel_rfl) (by kernel_rfl) (Go.Joins.field_of_Trod (shut_int Tryz.underlying3 w0) rfl) (Go.Joins.field_of_Trod (shut_int Tryz.underlying3 w1) rfl)
theorem own : ownKnob Tryz.prog.godebug = none := by kernel_rfl
theorem laidOut : laidOutB Tryz.prog = true := by kernel_rfl
set_option maxRecDepth 100000 in
set_option maxHeartbeats 2000000 in
theorem lifted (os : Os) (started : os.Started) (H : Type) (enc : TypeId × Value → H) :
  ReturnsInHanded {} Tryz.checked os 5 .any (Rows.walkPathsSpec.pre6 enc Tryz.prog Tryz.f5 Rows.walkPathsRow.domain false) (Rows.walkPathsSpec.post enc Tryz.prog Tryz.f5 false true false false) := by
 refine returnsInHanded_of_change_sized (C := Tryz.checked) own started (by kernel_rfl) Tryz.func5
  (ChangeSpec.witness6 (enc := enc) (C := Tryz.checked) false ⟨#[], #[.slice none 0 0, .agg #[.int .i64 0, .int .i64 0]], []⟩ 8 (by kernel_rfl) (by kernel_rfl) (by kernel_rfl) (by kernel_rfl)) ?_
 intro W base args ds gs before hval0 hW hcnd hsz0 _
 have hval : ∀ (j : Nat) t v, Tryz.f5.params[j]? = some t → args[j]? = some v → Value.okWide Tryz.prog W .any base t v := hval0
 have hW' := hW
 obtain ⟨p, q, hA0, hV, rfl, hfz, hnd⟩ := hW
 have hA : DataW.TrodAll enc Tryz.prog W 0 (fun _ => true) true Tryz.f5.params.toList args.toList ds p := hA0
 rw [Tryz.params5] at hA hval
 obtain ⟨v0, vs0, d0, ds0, p0, q0, hargs, rfl, rfl, h0, r0⟩ := trodAll_cons hA
 obtain ⟨v1, vs1, d1, ds1, p1, q1, rfl, rfl, rfl, h1, r1⟩ := trodAll_cons r0
 obtain ⟨rfl, rfl, rfl⟩ := trodAll_nil r1
 obtain rfl : args = #[v0, v1] := by cases args; simp_all
 obtain ⟨rfl, rfl⟩ := trodVars_none hV
 obtain ⟨A0, len0, cap0, rfl⟩ := okWide_slice Tryz.underlying22 (hval 0 22 v0 rfl rfl)
 have k0 := h0
 have lt0 : ∀ x ∈ p0, x.block < W.heap.size := by obtain ⟨m, hm⟩ := k0; exact DataW.trod_lt m _ _ _ hm
 obtain ⟨f0, hf0⟩ := h0
 obtain ⟨xs0, rfl, hr0, hc0, hi0⟩ := open_nodes hf0
 obtain ⟨a1, rfl, w1⟩ := open_dot (hval 1 24 v1 rfl rfl) h1
 clear hA0 hval0 hsz0
 refine (PWalk.WalkPaths.walk A0 cap0 xs0 W hr0 hc0 hi0 a1).mono fun e W' ⟨he, bel⟩ => ?_
 subst he
 exact ⟨_, rfl, _, _, _, [], _, [], hW', trodAll_mk1 (shut_bool Tryz.underlying4 _), (trodAll_cons_mk (Below.trod laidOut (by kernel_rfl) (of_decide_eq_true (by kernel_rfl)) k0 bel lt0) (trodAll_cons_mk (w1 _ _ _ _) trodAll_mk0)), rfl, bel.frame _, fun h => by cases h⟩
theorem over : Rows.walkPathsRow.holds Tryz.pinned (OpenSpec.ofChange Rows.walkPathsSpec) :=
 OpenClaim.holds_of_wide 5 Tryz.f5 rfl rfl rfl rfl rfl rfl rfl ⟨rfl, rfl, rfl, rfl, rfl⟩ rfl rfl rfl rfl rfl (by kernel_rfl) Tryz.func5 (by kernel_rfl)
  (of_decide_eq_true (by kernel_rfl)) (by unfold Func.isWrapper; first | (rw [if_pos (by decide +kernel)]; kernel_rfl) | (rw [if_neg (by decide +kernel)]; exact ⟨rfl, rfl⟩))
  (fun os started H enc _ => lifted os started H enc)
theorem proved : Rows.WalkPathsSaid := over
#print axioms proved
end Go.Proofs.YtjlpaagnajmogaaGreat.walkPaths
end
