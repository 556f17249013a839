/-
  As many changes as can be undone, and more. Part 10 of 10.
-/
import Derived.Test.YtefejajofmpjdaaGreatDI
import Derived.StillTailTactics
import Derived.Maps.OwnOps
import Derived.IntWalk
import Derived.RangeFuncNested
import Derived.RangeFuncBound
import Derived.RangeFuncCalls
import Derived.RangeFuncLeaves
import Derived.Shelf.Abstract
import Derived.Shelf.RegionOpen
import Derived.OwnWalkIn
import Derived.TacticsInMore
import Derived.LoopNIn
import Derived.LoopIn
import Derived.RangeFuncBox
import Derived.Maps.AppendAt
import Derived.Lib.BufferMore
import Derived.Laws.CopyRow
import Derived.LoopTactic
import Derived.Outline
import Derived.WalkKit
import Derived.WalkLawsBesides
import Derived.Test.YtefejajofmpjdaaGreatRows
import Derived.ProofKit
import Derived.OpenShut
import Derived.ShutString
import Derived.ChangeOld
import Derived.Below
import Derived.SizedLaws
import Derived.Deep.DeepHandedRow
import Derived.Deep.Slices
import Derived.Lib.SmallJoins
section
namespace Go.Proofs.YtefejajofmpjdaaGreat.PWalk
open Go.RowKit Go.Proofs.YtefejajofmpjdaaGreatW.PrintWords Go.Proofs.YtefejajofmpjdaaGreatW.PrintLast Go.Proofs.YtefejajofmpjdaaGreatW.PrintMore
set_option linter.unusedVariables false
set_option linter.unusedSimpArgs false
open Go.Shelf
attribute [local go_sem] Oper.semAt_some
section
theorem rune_at {w wr : World} {A : Option Addr} {n : Nat} {xs : List Int} (h : Kd.C (Kd.int .i32) w A n xs) (hb : Below w.heap.size w wr) (k : Nat) (x : Int) (hk : xs[k]? = some x) :
  ∃ ad, A = some ad ∧ wr.cell? (ad.add k) = some (.int .i32 x) := by
 have hl := Kd.C_len h
 have hlt := (List.getElem?_eq_some_iff.1 hk).1
 obtain ⟨ad, e, h0⟩ := Kd.at_int h (k : Int) (by omega) (by omega)
 have hd : rd xs (k : Int) = x := by simp [rd, hk]
 rw [hd] at h0
 simp only [Int.toNat_natCast] at h0
 exact ⟨ad, e, zal hb h0⟩
def idxR (p : Int → Bool) (l : List Int) : Int := match l.findIdx? p with | some i => (i : Int) | none => -1
theorem idxR_at {p : Int → Bool} {l : List Int} {k : Nat} {x : Int} (hk : l[k]? = some x) (hx : p x = true) (hno : ∀ j y, j < k → l[j]? = some y → p y = false) : idxR p l = k := by
 unfold idxR
 rw [List.findIdx?_eq_some_iff_getElem.2 ⟨(List.getElem?_eq_some_iff.1 hk).1, by rw [(List.getElem?_eq_some_iff.1 hk).2]; exact hx, fun j hj => by rw [hno j _ hj (List.getElem?_eq_getElem _)]; simp⟩]
theorem idxR_none {p : Int → Bool} {l : List Int} (hno : ∀ j y, j < l.length → l[j]? = some y → p y = false) : idxR p l = -1 := by
 unfold idxR
 rw [List.findIdx?_eq_none_iff.2 fun x hx => by
  obtain ⟨j, hj⟩ := List.getElem?_of_mem hx
  exact hno j x (List.getElem?_eq_some_iff.1 hj).1 hj]
theorem noR_step {p : Int → Bool} {l : List Int} {k : Nat} {x : Int} (hk : l[k]? = some x) (hx : p x = false) (hno : ∀ j y, j < k → l[j]? = some y → p y = false) : ∀ j y, j < k + 1 → l[j]? = some y → p y = false := by
 intro j y hj hy
 rcases Nat.lt_succ_iff_lt_or_eq.1 hj with h | h
 ·
  exact hno j y h hy
 ·
  subst h; rw [hk] at hy; cases hy; exact hx
set_option maxHeartbeats 400000 in
theorem IndexFuncRune.calls (p : Int → Bool) (fn : Nat) (A0 : Option Addr) (c0 : Nat) (l0 : List Int) (w : World) (hr0 : Kd.C (Kd.int .i32) w A0 l0.length l0) (hc0 : l0.length ≤ c0)
  (hcall : ∀ args W, (callFunc fn args).run Tryz.prog W = .ok (.enter fn args) W)
  (hp : ∀ x W, Calls Tryz.prog fn #[.int .i32 x] W fun e W' => e = .returned (.bool (p x)) ∧ Below W.heap.size W W') :
  Calls Tryz.prog 74 #[.slice A0 l0.length c0, .func (.func fn) #[] #[]] w fun e w' => e = .returned (.int .i64 (idxR p l0)) ∧ Below w.heap.size w w' := by
 have hm := Kd.C_max hr0
 have HR := za0.mk hr0
 have HP := za0.mk hp
 have HC := za0.mk hc0
 clear hr0 hp hc0
 go_enter Tryz.func74, Tryz.ntmps74
 go_wp2
 go_loopw [5, 8] (fun _ i wr => ∃ k : Nat, k ≤ l0.length ∧ i = .int .i64 k ∧ za0 (∀ j y, j < k → l0[j]? = some y → p y = false) ∧ za0 (Below w.heap.size w wr)) (fun _ i _ => l0.length - (intOf i).toNat)
 case atStart => exact ⟨0, Nat.zero_le _, rfl, ⟨fun j y hj => absurd hj (Nat.not_lt_zero _)⟩, ⟨Below.refl _ _⟩⟩
 case round =>
  obtain ⟨k, hk, rfl, hno, hb⟩ := hrel
  by_cases hlt : k < l0.length
  ·
   obtain ⟨x, hx⟩ : ∃ x, za0 (l0[k]? = some x) := ⟨_, ⟨List.getElem?_eq_getElem hlt⟩⟩
   obtain ⟨ad, e, h0⟩ := rune_at HR.out hb.out k x hx.out
   subst e
   cases hpx : p x with
   | true =>
    have HX := za0.mk hpx
    clear hpx
    go_wp2
    refine (HP.out x _).mono ?_
    rintro e W' ⟨rfl, hb2⟩
    rw [HX.out]
    go_wp2
    go_ret
    exact ⟨by rw [idxR_at hx.out HX.out hno.out]; rfl, below_then hb.out hb.out.size hb2⟩
   | false =>
    have HX := za0.mk hpx
    clear hpx
    go_wp2
    refine (HP.out x _).mono ?_
    rintro e W' ⟨rfl, hb2⟩
    rw [HX.out]
    go_wp2
    go_roundw
    case rel => exact ⟨k + 1, by omega, by go_num, ⟨noR_step hx.out HX.out hno.out⟩, ⟨below_then hb.out hb.out.size hb2⟩⟩
    case measure => simp [intOf]; omega
  ·
   go_wp2
   go_ret
   obtain rfl : k = l0.length := by omega
   exact ⟨by rw [idxR_none hno.out]; rfl, hb.out⟩
set_option maxHeartbeats 400000 in
theorem ContainsFuncRune.calls (p : Int → Bool) (fn : Nat) (A0 : Option Addr) (c0 : Nat) (l0 : List Int) (w : World) (hr0 : Kd.C (Kd.int .i32) w A0 l0.length l0) (hc0 : l0.length ≤ c0)
  (hcall : ∀ args W, (callFunc fn args).run Tryz.prog W = .ok (.enter fn args) W)
  (hp : ∀ x W, Calls Tryz.prog fn #[.int .i32 x] W fun e W' => e = .returned (.bool (p x)) ∧ Below W.heap.size W W') :
  Calls Tryz.prog 55 #[.slice A0 l0.length c0, .func (.func fn) #[] #[]] w fun e w' => e = .returned (.bool (l0.any p)) ∧ Below w.heap.size w w' := by
 have HI := za0.mk (IndexFuncRune.calls p fn A0 c0 l0 w hr0 hc0 hcall hp)
 clear hr0 hc0 hp hcall
 go_enter Tryz.func55, Tryz.ntmps55
 go_wp2_with fail
 refine HI.out.mono ?_
 rintro e W' ⟨rfl, hb⟩
 have hi : decide (idxR p l0 ≥ 0) = l0.any p := by
  unfold idxR
  cases h : l0.findIdx? p with
  | none => simp [List.findIdx?_eq_none_iff] at h; simp; exact h
  | some i => simp; exact ⟨_, List.getElem_mem (List.findIdx?_eq_some_iff_getElem.1 h).1, (List.findIdx?_eq_some_iff_getElem.1 h).2.1⟩
 have HI2 := za0.mk hi
 clear hi
 go_wp2
 go_ret
 exact ⟨by rw [← HI2.out]; rfl, hb⟩
theorem badRune_call (r : Int) (W : World) : Calls Tryz.prog 56 #[.int .i32 r] W fun e W' => e = .returned (.bool (!runeOk r)) ∧ Below W.heap.size W W' := by
 go_enter Tryz.func56, Tryz.ntmps56
 go_wp2_with fail
 refine (runes_Valid.calls 10 r (runeOk r) W (runesValid_is 9 r)).mono ?_
 rintro e W' ⟨rfl, hd⟩
 have HB := za0.mk (hd.below)
 clear hd
 go_wp2
 go_ret
 exact ⟨rfl, HB.out⟩
def runes_Encode.f (l0 : List Int) : Option (ByteArray × Int) := if l0.length ≤ 1000000 then some (if l0.any (fun r => !runeOk r) = true then (⟨#[]⟩, 13) else (runesBytes l0, 0)) else none
set_option maxHeartbeats 400000 in
theorem runes_Encode.calls (A0 : Option Addr) (c0 : Nat) (l0 : List Int) (r1 : ByteArray) (r2 : Int) (w : World) (hr0 : Kd.C (Kd.int .i32) w A0 l0.length l0) (hc0 : l0.length ≤ c0) (h : runes_Encode.f l0 = some (r1, r2)) :
  Calls Tryz.prog 40 #[.slice A0 l0.length c0] w fun e w' => e = .returned (.tuple #[.string r1, .int .i64 r2]) ∧ Below w.heap.size w w' := by
 unfold runes_Encode.f at h
 by_cases hl : l0.length ≤ 1000000
 rotate_left
 ·
  rw [if_neg hl] at h; cases h
 rw [if_pos hl] at h
 have HF := za0.mk (ContainsFuncRune.calls (fun r => !runeOk r) 56 A0 c0 l0 w hr0 hc0 (enters_of Tryz.func56 (by kernel_rfl) rfl) badRune_call)
 have HH := za0.mk (Option.some.inj h)
 have HR := za0.mk hr0
 clear h hr0 hc0
 have hcv : ∀ W, Below w.heap.size w W → (convert 78 9 (.slice A0 l0.length c0)).run Tryz.prog W = .ok (.string (runesBytes l0)) W := by
  intro W hb
  have hC := Kd.C_below HR.out hb
  by_cases h0 : 0 < l0.length
  ·
   obtain ⟨x, hx⟩ : ∃ x, l0[0]? = some x := ⟨_, List.getElem?_eq_getElem h0⟩
   obtain ⟨ad, rfl, _⟩ := rune_at hC (Below.refl _ W) 0 x hx
   have := run_convert_runes (P := Tryz.prog) W 78 9 21 ad l0.length c0 l0 (Nat.le_refl _) Tryz.underlying78 Tryz.underlying21 Tryz.underlying9 (fun j hj => by
    obtain ⟨ad2, e2, hc⟩ := rune_at hC (Below.refl _ W) j l0[j] (List.getElem?_eq_getElem hj)
    cases e2
    rw [hc]; simp [List.getD, hj])
   rw [List.take_length] at this
   exact this
  ·
   obtain rfl : l0 = [] := List.eq_nil_of_length_eq_zero (by omega)
   cases A0 with
   | none => exact run_convert_runes_nil (P := Tryz.prog) W 78 9 21 _ _ Tryz.underlying78 Tryz.underlying21 Tryz.underlying9
   | some ad => exact run_convert_runes (P := Tryz.prog) W 78 9 21 ad 0 c0 [] (Nat.le_refl _) Tryz.underlying78 Tryz.underlying21 Tryz.underlying9 (fun j hj => absurd hj (Nat.not_lt_zero _))
 have HCV := za0.mk hcv
 clear hcv hl
 obtain ⟨b, Hb⟩ : ∃ b, za0 (l0.any (fun r => !runeOk r) = b) := ⟨_, ⟨rfl⟩⟩
 rw [Hb.out] at HF HH
 go_enter Tryz.func40, Tryz.ntmps40
 go_wp2_with fail
 refine HF.out.mono ?_
 rintro e W ⟨rfl, hb⟩
 have hcv := HCV.out W hb
 have HB := za0.mk hb
 clear hb HF HCV
 cases b with
 | true =>
  obtain ⟨rfl, rfl⟩ : r1 = ⟨#[]⟩ ∧ r2 = 13 := by
   have := HH.out
   rw [if_pos rfl] at this
   cases this
   exact ⟨rfl, rfl⟩
  clear hcv
  go_wp2
  go_ret2
  exact ⟨rfl, HB.out⟩
 | false =>
  obtain ⟨rfl, rfl⟩ : r1 = runesBytes l0 ∧ r2 = 0 := by
   have := HH.out
   rw [if_neg (by decide)] at this
   cases this
   exact ⟨rfl, rfl⟩
  go_wp2
  go_ret2
  exact ⟨rfl, HB.out⟩
end
end Go.Proofs.YtefejajofmpjdaaGreat.PWalk
end
section
namespace Go.Proofs.YtefejajofmpjdaaGreat.PWalk
open Go.RowKit Go.Proofs.YtefejajofmpjdaaGreatW.PrintWords Go.Proofs.YtefejajofmpjdaaGreatW.PrintLast Go.Proofs.YtefejajofmpjdaaGreatW.PrintMore
set_option linter.unusedVariables false
set_option linter.unusedSimpArgs false
section
def index_Runes.l0 : Nat → Int → List Int → List (S42) → Int → Int → Option (List Int × Int)
 | 0, _, _, _, _, _ => none
 | k + 1, x5, x6, x14, x15, x16 => if x16 < x15 then (if 0 ≤ x16 then (if x16 < (x14.length : Int) then (if x6.length < 35184372088832 then (index_Runes.l0 k x5 (x6 ++ [(zaf x14 x16).f3]) x14 x15 (wrap64 (x16 + 1))) else (none)) else (none)) else (none)) else (some (x6, x5))
def index_Runes.f (k : Nat) (l0 : List (S42)) : Option (List Int × Int) := (index_visible.f l0).bind fun bt154 => (index_Runes.l0 k bt154.2 ([] : List Int) bt154.1 (bt154.1.length : Int) 0)
set_option maxHeartbeats 8000000 in
set_option maxRecDepth 100000 in
theorem index_Runes.calls (k : Nat) (A0 : Option Addr) (c0 : Nat) (l0 : List (S42)) (r1 : List Int) (r2 : Int) (w : World) (hr0 : Kd.C k42 w A0 l0.length l0) (hc0 : l0.length ≤ c0) (h : index_Runes.f k l0 = some (r1, r2)) :
  Calls Tryz.prog 39 #[.slice A0 l0.length c0] w fun e w' => ∃ v0_ : Value, e = .returned (.tuple #[v0_, .int .i64 r2]) ∧ Kd.R (Kd.int .i32) 21 w' w.heap.size (fun _ => True) v0_ r1 ∧ Below w.heap.size w w' := by
 have hu42 := Tryz.underlying42
 have HR0 := za0.mk hr0
 have HC0 := za0.mk hc0
 clear hr0 hc0
 have HB := za0.mk (Below.refl w.heap.size w)
 have H : ((index_visible.f l0).bind fun bt154 => (index_Runes.l0 k bt154.2 ([] : List Int) bt154.1 (bt154.1.length : Int) 0)) = some (r1, r2) := h
 clear h
 replace H := Option.bind_eq_some_iff.mp H
 obtain ⟨⟨t154, t155⟩, A20, H⟩ := H
 replace H : (index_Runes.l0 k t155 ([] : List Int) t154 (t154.length : Int) 0) = some (r1, r2) := H
 have A2 := za0.mk A20
 clear A20
 have H' := za0.mk H
 clear H
 go_enter Tryz.func39, Tryz.ntmps39
 go_wp2_with (first | ((with_reducible refine zam (f := 54) rfl ?_); refine goesL_ (some 11) rfl rfl Tryz.func54 (by kernel_rfl) rfl #[.slice A0 l0.length c0] rfl (by (try simp only [List.map_toArray, List.map_cons, List.map_nil]); first | done | rfl | (simp only [List.length_drop, List.length_take]; rfl)) ?_; (with_reducible refine (index_visible.calls _ _ l0 t154 t155 _ ?side1 ?side2 A2.out).mono ?_); (case side1 => repeat (first | exact HR0.out | (with_reducible refine Kd.C_alloc ?_ _) | (with_reducible refine Kd.C_drewN ?_ _) | (with_reducible refine Kd.C_drew ?_))); (case side2 => exact HC0.out); rintro e w3 ⟨v156, rfl, ho0, hb⟩; refine ⟨_, rfl, ?_⟩; have n0_ := za0.mk (Kd.R_lower ho0 (zac (by repeat (first | (with_reducible first | exact HB.out | apply za2 | apply za1 | apply za3) | exact HB.out)))); have n1_ := za0.mk (zad (by repeat (first | (with_reducible first | exact HB.out | apply za2 | apply za1 | apply za3) | exact HB.out)) hb); clear HB; have HO157 := n0_; have HB := n1_; clear n0_ n1_; (try clear hb); (try clear hb2); (try clear hk); (try clear hi); (try clear ho0); obtain ⟨Ao4, co4, eo4⟩ := Kd.R_slice HO157.out; subst eo4))
 go_loopg [6, 16] k (fun kq v6 v16 w' => ∃ (x6_1 : List Int) (x16_1 : Int), v16 = .int .i64 x16_1 ∧ za0 (index_Runes.l0 kq t155 x6_1 t154 (t154.length : Int) x16_1 = some (r1, r2)) ∧ za0 (kq ≤ k) ∧ za0 (Kd.R (Kd.int .i32) 21 w' w.heap.size (fun _ => True) v6 x6_1) ∧ za0 (Kd.R k42 42 w' w.heap.size (fun _ => True) (.slice Ao4 t154.length co4) t154) ∧ za0 (Below w.heap.size w w'))
 case atStart => exact ⟨(([] : List Int)), (0), (by first | rfl | (simp; done) | (simp [*]; done)), H', ⟨Nat.le_refl _⟩, ⟨by first | exact Kd.R_nil _ _ _ _ _ | exact Kd.N_nil _ _ _ _ _ | exact Kd.V_nil _ _ _ _ _ | exact Kd.Q_nil _ _ _ _ _ | exact Kd.S_nil _ _ _ _ _⟩, ⟨by (with_reducible repeat (first | apply Kd.R_alloc | apply Kd.R_drewN | apply Kd.R_drew)); exact HO157.out⟩, ⟨by repeat (first | (with_reducible first | exact HB.out | apply za2 | apply za1 | apply za3) | exact HB.out)⟩⟩
 case round =>
  clear H'
  try clear p2
  try clear c3
  obtain ⟨x6_1, x16_1, rfl, HA, HK1, HO_6, HO_14, HB⟩ := hrel
  cases gk with
  | zero => exact absurd HA.out (by simp [index_Runes.l0])
  | succ k1 =>
   have H := HA.out
   clear HA
   simp only [index_Runes.l0] at H
   by_cases c5 : x16_1 < (t154.length : Int)
   ·
    rw [if_pos c5] at H
    have c5b0 : decide (x16_1 < (t154.length : Int)) = true := decide_eq_true c5
    clear c5
    by_cases c6 : 0 ≤ x16_1
    ·
     rw [if_pos c6] at H
     have c6b0 : decide (0 ≤ x16_1) = true := decide_eq_true c6
     clear c6
     by_cases c7 : x16_1 < (t154.length : Int)
     ·
      rw [if_pos c7] at H
      have c7b0 : decide (x16_1 < (t154.length : Int)) = true := decide_eq_true c7
      clear c7
      by_cases c8 : x6_1.length < 35184372088832
      ·
       rw [if_pos c8] at H
       have LMc8 := za0.mk c8
       clear c8
       obtain ⟨y160, hy160⟩ : ∃ y_ : List Int, y_ = (x6_1 ++ [(zaf t154 x16_1).f3]) := ⟨_, rfl⟩
       replace H : (index_Runes.l0 k1 t155 y160 t154 (t154.length : Int) (wrap64 (x16_1 + 1))) = some (r1, r2) := by first | (rw [hy160]; with_reducible exact H) | (have H2_ := (Option.bind_some _ _).symm.trans H; rw [hy160]; with_reducible exact H2_) | (have H2_ := (Option.bind_some _ _).symm.trans H; with_reducible exact H2_) | with_reducible exact H | (rw [hy160]; exact H) | exact H
       have Ny160 := za0.mk hy160
       clear hy160
       have H' := za0.mk H
       clear H
       have p158 : 0 ≤ (x16_1 : Int) := of_decide_eq_true (by first | (with_reducible assumption) | assumption)
       have q158 : x16_1 < (t154.length : Int) := of_decide_eq_true (by first | (with_reducible assumption) | assumption)
       obtain ⟨ad158, e158, hx158_0, hx158_1, hx158_2, hx158_3, hx158_4, hx158_5⟩ := at_T42 (Kd.R_reads' HO_14.out).2.2 x16_1 p158 q158
       cases e158
       replace p158 := eq_true p158
       replace q158 := eq_true q158
       go_wp2_with (first | ((with_reducible refine zaq (N := 8) rfl ?_); refine zan ?hg (N := 8) ?hd (cs := #[.int .i64 0, .int .i64 0, .int .i64 0, .int .i64 0, .int .i64 0, .int .i32 0]) (t := 42) ?hr ?_; (case hd => rfl); (case hg => rfl); (case hr => first | (go_simp; done) | (go_simp; rfl)); intro gb159 hg w9 hbox hb; have n0_ := za0.mk (Kd.R_below (by (with_reducible repeat (first | apply Kd.R_alloc | apply Kd.R_drewN | apply Kd.R_drew)); exact HO_6.out) hb); have n1_ := za0.mk (Kd.R_below (Kd.R_elderB (by (with_reducible repeat (first | apply Kd.R_alloc | apply Kd.R_drewN | apply Kd.R_drew)); exact HO_14.out) gb159 (Nat.le_of_eq hg.symm)) hb); have n2_ := za0.mk (zad (by repeat (first | (with_reducible first | exact HB.out | apply za2 | apply za1 | apply za3) | exact HB.out)) hb); have n3_ := za0.mk (hbox); have n4_ := za0.mk ((by rw [hg]; exact (zac (by repeat (first | (with_reducible first | exact HB.out | apply za2 | apply za1 | apply za3) | exact HB.out))) : w.heap.size ≤ gb159)); have n5_ := za0.mk ((by rw [hg]; exact (zac (by repeat (first | (with_reducible first | exact HB.out | apply za2 | apply za1 | apply za3) | exact HB.out))) : w.heap.size ≤ gb159)); clear HO_6; clear HO_14; clear HB; have HO_6 := n0_; have HO_14 := n1_; have HB := n2_; have BK159 := n3_; have GW159 := n4_; have GE159 := n5_; clear n0_ n1_ n2_ n3_ n4_ n5_; clear hb hbox hg; have hcz10_0 : w9.cell? ⟨gb159, 0, none⟩ = some (.int .i64 0) := (za4 BK159.out 0).trans rfl; have hcz10_1 : w9.cell? ⟨gb159, 1, none⟩ = some (.int .i64 0) := (za4 BK159.out 1).trans rfl; have hcz10_2 : w9.cell? ⟨gb159, 2, none⟩ = some (.int .i64 0) := (za4 BK159.out 2).trans rfl; have hcz10_3 : w9.cell? ⟨gb159, 3, none⟩ = some (.int .i64 0) := (za4 BK159.out 3).trans rfl; have hcz10_4 : w9.cell? ⟨gb159, 4, none⟩ = some (.int .i64 0) := (za4 BK159.out 4).trans rfl; have hcz10_5 : w9.cell? ⟨gb159, 5, none⟩ = some (.int .i32 0) := (za4 BK159.out 5).trans rfl; have hfz10_0 := za9 BK159.out 0; have hfz10_1 := za9 BK159.out 1; have hfz10_2 := za9 BK159.out 2; have hfz10_3 := za9 BK159.out 3; have hfz10_4 := za9 BK159.out 4; have hfz10_5 := za9 BK159.out 5) | ((with_reducible refine gate_builtin (b := .append) (xs := #[.tmp 20, .tmp 23]) rfl ?_); at_builtin; refine Kd.R_append (Kd.int .i32) (w0 := w) w.heap.size rfl (.tmp 20) (.tmp 23) 78 21 (.int .i32 0) 4 rfl Tryz.underlying78 info21 rfl (by decide) (by omega) u6 x6_1 ((zaf t154 x16_1).f3) [.int .i32 ((zaf t154 x16_1).f3)] (fun _ => True) (fun _ => False) rfl (by first | (go_simp; done) | (go_simp; rfl)) ?aP (fun _ hk => hk.elim) ?aF ?aO ?aB ?aS ?aL ?_; (case aP => exact rfl); (case aB => exact (by repeat (first | (with_reducible first | exact HB.out | apply za2 | apply za1 | apply za3 | refine za5 ?_ GE159.out) | exact HB.out))); (case aF => exact (fun _ _ => trivial)); (case aO => exact (by (with_reducible repeat (first | apply Kd.R_alloc | apply Kd.R_drewN | apply Kd.R_drew)); exact Kd.R_mono (Kd.R_far (p := ⟨gb159, 5, none⟩) (Kd.R_far (p := ⟨gb159, 4, none⟩) (Kd.R_far (p := ⟨gb159, 3, none⟩) (Kd.R_far (p := ⟨gb159, 2, none⟩) (Kd.R_far (p := ⟨gb159, 1, none⟩) (Kd.R_far (p := ⟨gb159, 0, none⟩) (Kd.R_types HO_6.out BK159.out (by decide)) (fun _ hk => hk.2) (.int .i64 ((zaf t154 x16_1).f0.f0))) (fun _ hk => hk.2) (.int .i64 ((zaf t154 x16_1).f0.f1))) (fun _ hk => hk.2) (.int .i64 ((zaf t154 x16_1).f1.f0))) (fun _ hk => hk.2) (.int .i64 ((zaf t154 x16_1).f1.f1))) (fun _ hk => hk.2) (.int .i64 ((zaf t154 x16_1).f2))) (fun _ hk => hk.2) (.int .i32 ((zaf t154 x16_1).f3))) (fun _ hk => trivial))); (case aS => exact (zac (by repeat (first | (with_reducible first | exact HB.out | apply za2 | apply za1 | apply za3 | refine za5 ?_ GE159.out) | exact HB.out)))); (case aL => have := LMc8.out; omega); intro v161 w11 ho hb hg hat; rw [← Ny160.out] at ho; have n0_ := za0.mk (Kd.R_over' (by (with_reducible repeat (first | apply Kd.R_alloc | apply Kd.R_drewN | apply Kd.R_drew)); exact (Kd.R_mono (Kd.R_far (p := ⟨gb159, 5, none⟩) (Kd.R_far (p := ⟨gb159, 4, none⟩) (Kd.R_far (p := ⟨gb159, 3, none⟩) (Kd.R_far (p := ⟨gb159, 2, none⟩) (Kd.R_far (p := ⟨gb159, 1, none⟩) (Kd.R_far (p := ⟨gb159, 0, none⟩) (Kd.R_mono HO_14.out (fun k_ hk => (⟨hk, hk.2⟩ : _ ∧ k_ ≠ gb159))) (fun _ hk => hk.2) (.int .i64 ((zaf t154 x16_1).f0.f0))) (fun _ hk => hk.2) (.int .i64 ((zaf t154 x16_1).f0.f1))) (fun _ hk => hk.2) (.int .i64 ((zaf t154 x16_1).f1.f0))) (fun _ hk => hk.2) (.int .i64 ((zaf t154 x16_1).f1.f1))) (fun _ hk => hk.2) (.int .i64 ((zaf t154 x16_1).f2))) (fun _ hk => hk.2) (.int .i32 ((zaf t154 x16_1).f3))) (fun _ h_ => h_.1))) (Kd.R_typed (by (with_reducible repeat (first | apply Kd.R_alloc | apply Kd.R_drewN | apply Kd.R_drew)); exact (Kd.R_mono (Kd.R_far (p := ⟨gb159, 5, none⟩) (Kd.R_far (p := ⟨gb159, 4, none⟩) (Kd.R_far (p := ⟨gb159, 3, none⟩) (Kd.R_far (p := ⟨gb159, 2, none⟩) (Kd.R_far (p := ⟨gb159, 1, none⟩) (Kd.R_far (p := ⟨gb159, 0, none⟩) (Kd.R_types HO_6.out BK159.out (by decide)) (fun _ hk => hk.2) (.int .i64 ((zaf t154 x16_1).f0.f0))) (fun _ hk => hk.2) (.int .i64 ((zaf t154 x16_1).f0.f1))) (fun _ hk => hk.2) (.int .i64 ((zaf t154 x16_1).f1.f0))) (fun _ hk => hk.2) (.int .i64 ((zaf t154 x16_1).f1.f1))) (fun _ hk => hk.2) (.int .i64 ((zaf t154 x16_1).f2))) (fun _ hk => hk.2) (.int .i32 ((zaf t154 x16_1).f3))) (fun _ h_ => h_.1)))) (by decide) hg); have n1_ := za0.mk (blk_grown (g := gb159) (o := .cells #[.int .i64 ((zaf t154 x16_1).f0.f0), .int .i64 ((zaf t154 x16_1).f0.f1), .int .i64 ((zaf t154 x16_1).f1.f0), .int .i64 ((zaf t154 x16_1).f1.f1), .int .i64 ((zaf t154 x16_1).f2), .int .i32 ((zaf t154 x16_1).f3)] 42 (0, 0)) (by (with_reducible repeat (first | refine za7 ?_ _ | refine zaa ?_ | refine za6 ?_ _)); refine blk_put (cs := #[.int .i64 ((zaf t154 x16_1).f0.f0), .int .i64 ((zaf t154 x16_1).f0.f1), .int .i64 ((zaf t154 x16_1).f1.f0), .int .i64 ((zaf t154 x16_1).f1.f1), .int .i64 ((zaf t154 x16_1).f2), .int .i32 0]) ?_ 5 _ rfl; (with_reducible repeat (first | refine za7 ?_ _ | refine zaa ?_ | refine za6 ?_ _)); refine blk_put (cs := #[.int .i64 ((zaf t154 x16_1).f0.f0), .int .i64 ((zaf t154 x16_1).f0.f1), .int .i64 ((zaf t154 x16_1).f1.f0), .int .i64 ((zaf t154 x16_1).f1.f1), .int .i64 0, .int .i32 0]) ?_ 4 _ rfl; (with_reducible repeat (first | refine za7 ?_ _ | refine zaa ?_ | refine za6 ?_ _)); refine blk_put (cs := #[.int .i64 ((zaf t154 x16_1).f0.f0), .int .i64 ((zaf t154 x16_1).f0.f1), .int .i64 ((zaf t154 x16_1).f1.f0), .int .i64 0, .int .i64 0, .int .i32 0]) ?_ 3 _ rfl; (with_reducible repeat (first | refine za7 ?_ _ | refine zaa ?_ | refine za6 ?_ _)); refine blk_put (cs := #[.int .i64 ((zaf t154 x16_1).f0.f0), .int .i64 ((zaf t154 x16_1).f0.f1), .int .i64 0, .int .i64 0, .int .i64 0, .int .i32 0]) ?_ 2 _ rfl; (with_reducible repeat (first | refine za7 ?_ _ | refine zaa ?_ | refine za6 ?_ _)); refine blk_put (cs := #[.int .i64 ((zaf t154 x16_1).f0.f0), .int .i64 0, .int .i64 0, .int .i64 0, .int .i64 0, .int .i32 0]) ?_ 1 _ rfl; (with_reducible repeat (first | refine za7 ?_ _ | refine zaa ?_ | refine za6 ?_ _)); refine blk_put (cs := #[.int .i64 0, .int .i64 0, .int .i64 0, .int .i64 0, .int .i64 0, .int .i32 0]) ?_ 0 _ rfl; (with_reducible repeat (first | refine za7 ?_ _ | refine zaa ?_ | refine za6 ?_ _)); exact BK159.out) hg (Kd.R_ne HO_6.out BK159.out (by decide))); have n2_ := za0.mk (hb); have n3_ := za0.mk (ho); clear HO_14; clear BK159; clear HB; clear HO_6; have HO_14 := n0_; have BK159 := n1_; have HB := n2_; have HO162 := n3_; clear n0_ n1_ n2_ n3_; clear ho hb hg hat))
       go_roundg k1
       case measure => have := HK1.out; omega
       case rel => exact ⟨(y160), (wrap64 (x16_1 + 1)), (by first | rfl | (simp; done) | (simp [*]; done)), H', ⟨by have := HK1.out; omega⟩, ⟨by (with_reducible repeat (first | apply Kd.R_alloc | apply Kd.R_drewN | apply Kd.R_drew)); exact HO162.out⟩, ⟨by (with_reducible repeat (first | apply Kd.R_alloc | apply Kd.R_drewN | apply Kd.R_drew)); exact Kd.R_mono HO_14.out (fun _ hk => trivial)⟩, ⟨by repeat (first | (with_reducible first | exact HB.out | apply za2 | apply za1 | apply za3 | refine za5 ?_ GE159.out) | exact HB.out)⟩⟩
      ·
       rw [if_neg c8] at H
       exact absurd H (by simp)
     ·
      rw [if_neg c7] at H
      exact absurd H (by simp)
    ·
     rw [if_neg c6] at H
     exact absurd H (by simp)
   ·
    rw [if_neg c5] at H
    have c5b0 : decide (x16_1 < (t154.length : Int)) = false := decide_eq_false c5
    clear c5
    simp only [Option.some.injEq, Prod.mk.injEq] at H
    obtain ⟨rfl, rfl⟩ := H
    go_wp2
    go_ret2
    exact ⟨_, by first | rfl | (simp [zai, zah] <;> rfl) | (simp [*, zai, zah] <;> rfl), by (with_reducible repeat (first | apply Kd.R_alloc | apply Kd.R_drewN | apply Kd.R_drew)); exact HO_6.out, by repeat (first | (with_reducible first | exact HB.out | apply za2 | apply za1 | apply za3) | exact HB.out)⟩
end
section
def index_Text.f (k : Nat) (l0 : List (S42)) : Option (ByteArray × Int) := (index_Runes.f k l0).bind fun bt163 => (if bt163.2 = 0 then ((runes_Encode.f bt163.1).bind fun bt167 => (some (bt167.1, bt167.2))) else (some ((⟨#[]⟩ : ByteArray), bt163.2)))
set_option maxHeartbeats 8000000 in
set_option maxRecDepth 100000 in
theorem index_Text.calls (k : Nat) (A0 : Option Addr) (c0 : Nat) (l0 : List (S42)) (r1 : ByteArray) (r2 : Int) (w : World) (hr0 : Kd.C k42 w A0 l0.length l0) (hc0 : l0.length ≤ c0) (h : index_Text.f k l0 = some (r1, r2)) :
  Calls Tryz.prog 17 #[.slice A0 l0.length c0] w fun e w' => e = .returned (.tuple #[.string r1, .int .i64 r2]) ∧ Below w.heap.size w w' := by
 have HR0 := za0.mk hr0
 have HC0 := za0.mk hc0
 clear hr0 hc0
 have HB := za0.mk (Below.refl w.heap.size w)
 have H : ((index_Runes.f k l0).bind fun bt163 => (if bt163.2 = 0 then ((runes_Encode.f bt163.1).bind fun bt167 => (some (bt167.1, bt167.2))) else (some ((⟨#[]⟩ : ByteArray), bt163.2)))) = some (r1, r2) := h
 clear h
 replace H := Option.bind_eq_some_iff.mp H
 obtain ⟨⟨t163, t164⟩, A20, H⟩ := H
 replace H : (if t164 = 0 then ((runes_Encode.f t163).bind fun bt167 => (some (bt167.1, bt167.2))) else (some ((⟨#[]⟩ : ByteArray), t164))) = some (r1, r2) := H
 have A2 := za0.mk A20
 clear A20
 by_cases c3 : t164 = 0
 ·
  rw [if_pos c3] at H
  have c3b0 : (t164 == 0) = true := beq_iff_eq.mpr c3
  have c3b1 : (t164 != 0) = false := bne_eq_false_iff_eq.mpr c3
  clear c3
  replace H := Option.bind_eq_some_iff.mp H
  obtain ⟨⟨t167, t168⟩, A40, H⟩ := H
  replace H : (some (t167, t168)) = some (r1, r2) := H
  have A4 := za0.mk A40
  clear A40
  simp only [Option.some.injEq, Prod.mk.injEq] at H
  obtain ⟨rfl, rfl⟩ := H
  go_enter Tryz.func17, Tryz.ntmps17
  go_wp2_with (first | ((with_reducible refine zam (f := 39) rfl ?_); refine goesL_ (some 8) rfl rfl Tryz.func39 (by kernel_rfl) rfl #[.slice A0 l0.length c0] rfl (by (try simp only [List.map_toArray, List.map_cons, List.map_nil]); first | done | rfl | (simp only [List.length_drop, List.length_take]; rfl)) ?_; (with_reducible refine (index_Runes.calls k _ _ l0 t163 t164 _ ?side1 ?side2 A2.out).mono ?_); (case side1 => repeat (first | exact HR0.out | (with_reducible refine Kd.C_alloc ?_ _) | (with_reducible refine Kd.C_drewN ?_ _) | (with_reducible refine Kd.C_drew ?_))); (case side2 => exact HC0.out); rintro e w5 ⟨v165, rfl, ho0, hb⟩; refine ⟨_, rfl, ?_⟩; have n0_ := za0.mk (Kd.R_lower ho0 (zac (by repeat (first | (with_reducible first | exact HB.out | apply za2 | apply za1 | apply za3) | exact HB.out)))); have n1_ := za0.mk (zad (by repeat (first | (with_reducible first | exact HB.out | apply za2 | apply za1 | apply za3) | exact HB.out)) hb); clear HB; have HO166 := n0_; have HB := n1_; clear n0_ n1_; (try clear hb); (try clear hb2); (try clear hk); (try clear hi); (try clear ho0); obtain ⟨Ao6, co6, eo6⟩ := Kd.R_slice HO166.out; subst eo6) | ((with_reducible refine zam (f := 40) rfl ?_); refine goesL_ (some 15) rfl rfl Tryz.func40 (by kernel_rfl) rfl #[.slice Ao6 t163.length co6] rfl (by (try simp only [List.map_toArray, List.map_cons, List.map_nil]); first | done | rfl | (simp only [List.length_drop, List.length_take]; rfl)) ?_; (with_reducible refine (runes_Encode.calls _ _ t163 t167 t168 _ ?side1 ?side2 A4.out).mono ?_); (case side1 => repeat (first | exact (Kd.R_reads' HO166.out).2.2 | (with_reducible refine Kd.C_alloc ?_ _) | (with_reducible refine Kd.C_drewN ?_ _) | (with_reducible refine Kd.C_drew ?_))); (case side2 => exact (Kd.R_reads' HO166.out).2.1); rintro e w7 ⟨rfl, hb⟩; refine ⟨_, rfl, ?_⟩; have n0_ := za0.mk (Kd.R_below (by (with_reducible repeat (first | apply Kd.R_alloc | apply Kd.R_drewN | apply Kd.R_drew)); exact HO166.out) hb); have n1_ := za0.mk (zad (by repeat (first | (with_reducible first | exact HB.out | apply za2 | apply za1 | apply za3) | exact HB.out)) hb); clear HO166; clear HB; have HO166 := n0_; have HB := n1_; clear n0_ n1_; (try clear hb); (try clear hb2); (try clear hk); (try clear hi)))
  go_ret2
  exact ⟨by first | rfl | (simp [zai, zah] <;> rfl) | (simp [*, zai, zah] <;> rfl), by repeat (first | (with_reducible first | exact HB.out | apply za2 | apply za1 | apply za3) | exact HB.out)⟩
 ·
  rw [if_neg c3] at H
  have c3b0 : (t164 == 0) = false := beq_eq_false_iff_ne.mpr c3
  have c3b1 : (t164 != 0) = true := bne_iff_ne.mpr c3
  simp only [Option.some.injEq, Prod.mk.injEq] at H
  obtain ⟨rfl, rfl⟩ := H
  go_enter Tryz.func17, Tryz.ntmps17
  go_wp2_with (first | ((with_reducible refine zam (f := 39) rfl ?_); refine goesL_ (some 8) rfl rfl Tryz.func39 (by kernel_rfl) rfl #[.slice A0 l0.length c0] rfl (by (try simp only [List.map_toArray, List.map_cons, List.map_nil]); first | done | rfl | (simp only [List.length_drop, List.length_take]; rfl)) ?_; (with_reducible refine (index_Runes.calls k _ _ l0 t163 t164 _ ?side1 ?side2 A2.out).mono ?_); (case side1 => repeat (first | exact HR0.out | (with_reducible refine Kd.C_alloc ?_ _) | (with_reducible refine Kd.C_drewN ?_ _) | (with_reducible refine Kd.C_drew ?_))); (case side2 => exact HC0.out); rintro e w8 ⟨v165, rfl, ho0, hb⟩; refine ⟨_, rfl, ?_⟩; have n0_ := za0.mk (Kd.R_lower ho0 (zac (by repeat (first | (with_reducible first | exact HB.out | apply za2 | apply za1 | apply za3) | exact HB.out)))); have n1_ := za0.mk (zad (by repeat (first | (with_reducible first | exact HB.out | apply za2 | apply za1 | apply za3) | exact HB.out)) hb); clear HB; have HO166 := n0_; have HB := n1_; clear n0_ n1_; (try clear hb); (try clear hb2); (try clear hk); (try clear hi); (try clear ho0)))
  go_ret2
  exact ⟨by first | rfl | (simp [zai, zah] <;> rfl) | (simp [*, zai, zah] <;> rfl), by repeat (first | (with_reducible first | exact HB.out | apply za2 | apply za1 | apply za3) | exact HB.out)⟩
end
section
def redpencillaw42_reads.f (k : Nat) (l0 : List (S42)) (a1 : ByteArray) : Option (Bool) := (index_Text.f k l0).bind fun bt169 => (if bt169.2 = 0 then (some (bt169.1.toList == a1.toList)) else (some false))
set_option maxHeartbeats 8000000 in
set_option maxRecDepth 100000 in
theorem redpencillaw42_reads.calls (k : Nat) (A0 : Option Addr) (c0 : Nat) (l0 : List (S42)) (a1 : ByteArray) (r : Bool) (w : World) (hr0 : Kd.C k42 w A0 l0.length l0) (hc0 : l0.length ≤ c0) (h : redpencillaw42_reads.f k l0 a1 = some r) :
  Calls Tryz.prog 19 #[.slice A0 l0.length c0, .string a1] w fun e w' => e = .returned (.bool r) ∧ Below w.heap.size w w' := by
 have HR0 := za0.mk hr0
 have HC0 := za0.mk hc0
 clear hr0 hc0
 have HB := za0.mk (Below.refl w.heap.size w)
 have H : ((index_Text.f k l0).bind fun bt169 => (if bt169.2 = 0 then (some (bt169.1.toList == a1.toList)) else (some false))) = some r := h
 clear h
 replace H := Option.bind_eq_some_iff.mp H
 obtain ⟨⟨t169, t170⟩, A30, H⟩ := H
 replace H : (if t170 = 0 then (some (t169.toList == a1.toList)) else (some false)) = some r := H
 have A3 := za0.mk A30
 clear A30
 by_cases c4 : t170 = 0
 ·
  rw [if_pos c4] at H
  have c4b0 : (t170 == 0) = true := beq_iff_eq.mpr c4
  have c4b1 : (t170 != 0) = false := bne_eq_false_iff_eq.mpr c4
  clear c4
  obtain rfl := Option.some.inj H
  go_enter Tryz.func19, Tryz.ntmps19
  go_wp2_with (first | ((with_reducible refine zam (f := 17) rfl ?_); refine goesL_ (some 9) rfl rfl Tryz.func17 (by kernel_rfl) rfl #[.slice A0 l0.length c0] rfl (by (try simp only [List.map_toArray, List.map_cons, List.map_nil]); first | done | rfl | (simp only [List.length_drop, List.length_take]; rfl)) ?_; (with_reducible refine (index_Text.calls k _ _ l0 t169 t170 _ ?side1 ?side2 A3.out).mono ?_); (case side1 => repeat (first | exact HR0.out | (with_reducible refine Kd.C_alloc ?_ _) | (with_reducible refine Kd.C_drewN ?_ _) | (with_reducible refine Kd.C_drew ?_))); (case side2 => exact HC0.out); rintro e w5 ⟨rfl, hb⟩; refine ⟨_, rfl, ?_⟩; have n0_ := za0.mk (zad (by repeat (first | (with_reducible first | exact HB.out | apply za2 | apply za1 | apply za3) | exact HB.out)) hb); clear HB; have HB := n0_; clear n0_; (try clear hb); (try clear hb2); (try clear hk); (try clear hi)))
  go_ret
  exact ⟨by first | rfl | (simp [zai, zah] <;> rfl) | (simp [*, zai, zah] <;> rfl), by repeat (first | (with_reducible first | exact HB.out | apply za2 | apply za1 | apply za3) | exact HB.out)⟩
 ·
  rw [if_neg c4] at H
  have c4b0 : (t170 == 0) = false := beq_eq_false_iff_ne.mpr c4
  have c4b1 : (t170 != 0) = true := bne_iff_ne.mpr c4
  obtain rfl := Option.some.inj H
  go_enter Tryz.func19, Tryz.ntmps19
  go_wp2_with (first | ((with_reducible refine zam (f := 17) rfl ?_); refine goesL_ (some 9) rfl rfl Tryz.func17 (by kernel_rfl) rfl #[.slice A0 l0.length c0] rfl (by (try simp only [List.map_toArray, List.map_cons, List.map_nil]); first | done | rfl | (simp only [List.length_drop, List.length_take]; rfl)) ?_; (with_reducible refine (index_Text.calls k _ _ l0 t169 t170 _ ?side1 ?side2 A3.out).mono ?_); (case side1 => repeat (first | exact HR0.out | (with_reducible refine Kd.C_alloc ?_ _) | (with_reducible refine Kd.C_drewN ?_ _) | (with_reducible refine Kd.C_drew ?_))); (case side2 => exact HC0.out); rintro e w6 ⟨rfl, hb⟩; refine ⟨_, rfl, ?_⟩; have n0_ := za0.mk (zad (by repeat (first | (with_reducible first | exact HB.out | apply za2 | apply za1 | apply za3) | exact HB.out)) hb); clear HB; have HB := n0_; clear n0_; (try clear hb); (try clear hb2); (try clear hk); (try clear hi)))
  go_ret
  exact ⟨by first | rfl | (simp [zai, zah] <;> rfl) | (simp [*, zai, zah] <;> rfl), by repeat (first | (with_reducible first | exact HB.out | apply za2 | apply za1 | apply za3) | exact HB.out)⟩
end
section
def redpencillaw42_both.f (l0 : List (S42)) (l1 : List (S42)) : Option ((List (S42))) := (join_Join.f l0 l1).bind fun bt150 => (some bt150.1)
set_option maxHeartbeats 8000000 in
set_option maxRecDepth 100000 in
theorem redpencillaw42_both.calls (A0 : Option Addr) (c0 : Nat) (l0 : List (S42)) (A1 : Option Addr) (c1 : Nat) (l1 : List (S42)) (r : List (S42)) (w : World) (hr0 : Kd.C k42 w A0 l0.length l0) (hc0 : l0.length ≤ c0) (hr1 : Kd.C k42 w A1 l1.length l1) (hc1 : l1.length ≤ c1) (h : redpencillaw42_both.f l0 l1 = some r) :
  Calls Tryz.prog 14 #[.slice A0 l0.length c0, .slice A1 l1.length c1] w fun e w' => ∃ v0_ : Value, e = .returned (v0_) ∧ Kd.R k42 42 w' w.heap.size (fun _ => True) v0_ r ∧ Below w.heap.size w w' := by
 have HR0 := za0.mk hr0
 have HC0 := za0.mk hc0
 clear hr0 hc0
 have HR1 := za0.mk hr1
 have HC1 := za0.mk hc1
 clear hr1 hc1
 have HB := za0.mk (Below.refl w.heap.size w)
 have H : ((join_Join.f l0 l1).bind fun bt150 => (some bt150.1)) = some r := h
 clear h
 replace H := Option.bind_eq_some_iff.mp H
 obtain ⟨⟨t150, t151⟩, A30, H⟩ := H
 replace H : (some t150) = some r := H
 have A3 := za0.mk A30
 clear A30
 obtain rfl := Option.some.inj H
 go_enter Tryz.func14, Tryz.ntmps14
 go_wp2_with (first | ((with_reducible refine zam (f := 20) rfl ?_); refine goesL_ (some 10) rfl rfl Tryz.func20 (by kernel_rfl) rfl #[.slice A0 l0.length c0, .slice A1 l1.length c1] rfl (by (try simp only [List.map_toArray, List.map_cons, List.map_nil]); first | done | rfl | (simp only [List.length_drop, List.length_take]; rfl)) ?_; (with_reducible refine (join_Join.calls _ _ l0 _ _ l1 t150 t151 _ ?side1 ?side2 ?side3 ?side4 A3.out).mono ?_); (case side1 => repeat (first | exact HR0.out | (with_reducible refine Kd.C_alloc ?_ _) | (with_reducible refine Kd.C_drewN ?_ _) | (with_reducible refine Kd.C_drew ?_))); (case side2 => exact HC0.out); (case side3 => repeat (first | exact HR1.out | (with_reducible refine Kd.C_alloc ?_ _) | (with_reducible refine Kd.C_drewN ?_ _) | (with_reducible refine Kd.C_drew ?_))); (case side4 => exact HC1.out); rintro e w4 ⟨v152, rfl, ho0, hb⟩; refine ⟨_, rfl, ?_⟩; have n0_ := za0.mk (Kd.R_lower ho0 (zac (by repeat (first | (with_reducible first | exact HB.out | apply za2 | apply za1 | apply za3) | exact HB.out)))); have n1_ := za0.mk (zad (by repeat (first | (with_reducible first | exact HB.out | apply za2 | apply za1 | apply za3) | exact HB.out)) hb); clear HB; have HO153 := n0_; have HB := n1_; clear n0_ n1_; (try clear hb); (try clear hb2); (try clear hk); (try clear hi); (try clear ho0)))
 go_ret
 exact ⟨_, by first | rfl | (simp [zai, zah] <;> rfl) | (simp [*, zai, zah] <;> rfl), by (with_reducible repeat (first | apply Kd.R_alloc | apply Kd.R_drewN | apply Kd.R_drew)); exact HO153.out, by repeat (first | (with_reducible first | exact HB.out | apply za2 | apply za1 | apply za3) | exact HB.out)⟩
end
section
def redpencillaw42_dot.f (a0 : Int) (a1 : Int) : Option (Int × Int) := some (a0, a1)
set_option maxHeartbeats 8000000 in
set_option maxRecDepth 100000 in
theorem redpencillaw42_dot.calls (a0 : Int) (a1 : Int) (r1 : Int) (r2 : Int) (w : World) (h : redpencillaw42_dot.f a0 a1 = some (r1, r2)) :
  Calls Tryz.prog 10 #[.int .i64 a0, .int .i64 a1] w fun e w' => e = .returned (.agg #[.int .i64 r1, .int .i64 r2]) ∧ Below w.heap.size w w' := by
 have hu39 := Tryz.underlying39
 have HB := za0.mk (Below.refl w.heap.size w)
 have H : (some (a0, a1)) = some (r1, r2) := h
 clear h
 simp only [Option.some.injEq, Prod.mk.injEq] at H
 obtain ⟨rfl, rfl⟩ := H
 go_enter Tryz.func10, Tryz.ntmps10
 go_wp2_with (first | ((with_reducible refine zaq (N := 4) rfl ?_); refine zan ?hg (N := 4) ?hd (cs := #[.int .i64 0, .int .i64 0]) (t := 39) ?hr ?_; (case hd => rfl); (case hg => rfl); (case hr => first | (go_simp; done) | (go_simp; rfl)); intro gb149 hg w3 hbox hb; have n0_ := za0.mk (zad (by repeat (first | (with_reducible first | exact HB.out | apply za2 | apply za1 | apply za3) | exact HB.out)) hb); have n1_ := za0.mk (hbox); have n2_ := za0.mk ((by rw [hg]; exact (zac (by repeat (first | (with_reducible first | exact HB.out | apply za2 | apply za1 | apply za3) | exact HB.out))) : w.heap.size ≤ gb149)); have n3_ := za0.mk ((by rw [hg]; exact (zac (by repeat (first | (with_reducible first | exact HB.out | apply za2 | apply za1 | apply za3) | exact HB.out))) : w.heap.size ≤ gb149)); clear HB; have HB := n0_; have BK149 := n1_; have GW149 := n2_; have GE149 := n3_; clear n0_ n1_ n2_ n3_; clear hb hbox hg; have hcz4_0 : w3.cell? ⟨gb149, 0, none⟩ = some (.int .i64 0) := (za4 BK149.out 0).trans rfl; have hcz4_1 : w3.cell? ⟨gb149, 1, none⟩ = some (.int .i64 0) := (za4 BK149.out 1).trans rfl; have hfz4_0 := za9 BK149.out 0; have hfz4_1 := za9 BK149.out 1))
 refine bodyPost_ret (results_cell_row rfl _ _ gb149 39 #[.int .i64 a0, .int .i64 a1] (0, 0) _ rfl (by (with_reducible repeat (first | refine za7 ?_ _ | refine zaa ?_ | refine za6 ?_ _)); refine blk_put (cs := #[.int .i64 a0, .int .i64 0]) ?_ 1 _ rfl; (with_reducible repeat (first | refine za7 ?_ _ | refine zaa ?_ | refine za6 ?_ _)); refine blk_put (cs := #[.int .i64 0, .int .i64 0]) ?_ 0 _ rfl; (with_reducible repeat (first | refine za7 ?_ _ | refine zaa ?_ | refine za6 ?_ _)); exact BK149.out) Tryz.underlying39 rfl (by kernel_rfl)) rfl ?_
 exact ⟨by first | rfl | (simp [zai, zah] <;> rfl) | (simp [*, zai, zah] <;> rfl), by repeat (first | (with_reducible first | exact HB.out | apply za2 | apply za1 | apply za3 | refine za5 ?_ GE149.out) | exact HB.out)⟩
end
end Go.Proofs.YtefejajofmpjdaaGreat.PWalk
end
section
namespace Go.Proofs.YtefejajofmpjdaaGreat.PWalk
open Go.RowKit Go.Proofs.YtefejajofmpjdaaGreatW.PrintWords Go.Proofs.YtefejajofmpjdaaGreatW.PrintLast Go.Proofs.YtefejajofmpjdaaGreatW.PrintMore
set_option linter.unusedVariables false
set_option linter.unusedSimpArgs false
open Go.Shelf
attribute [local go_sem] Oper.semAt_some
section
def kS : List Node := [⟨⟨1, 1⟩, ⟨0, 0⟩, 1, 97⟩, ⟨⟨1, 2⟩, ⟨1, 1⟩, 2, 98⟩]
def kD : List Node := [⟨⟨1, 1⟩, ⟨0, 0⟩, 1, 0⟩, ⟨⟨2, 1⟩, ⟨0, 0⟩, 3, 99⟩, ⟨⟨1, 2⟩, ⟨1, 1⟩, 2, 0⟩]
def kCm : List Dot := [⟨2, 1⟩]
def kCg : List LostE := [⟨⟨1, 1⟩, 97⟩, ⟨⟨1, 2⟩, 98⟩]
def kDel : List Node := [⟨⟨2, 1⟩, ⟨0, 0⟩, 3, 0⟩, ⟨⟨3, 1⟩, ⟨1, 1⟩, 4, 97⟩, ⟨⟨3, 2⟩, ⟨1, 2⟩, 5, 98⟩]
def kOm : List Dot := [⟨3, 1⟩, ⟨3, 2⟩]
def kOg : List LostE := [⟨⟨2, 1⟩, 99⟩]
def kK : List Node := [⟨⟨1, 1⟩, ⟨0, 0⟩, 1, 0⟩, ⟨⟨2, 1⟩, ⟨0, 0⟩, 3, 0⟩, ⟨⟨3, 1⟩, ⟨1, 1⟩, 4, 97⟩, ⟨⟨1, 2⟩, ⟨1, 1⟩, 2, 0⟩, ⟨⟨3, 2⟩, ⟨1, 2⟩, 5, 98⟩]
def kQ : List Node := [⟨⟨3, 1⟩, ⟨1, 1⟩, 4, 0⟩, ⟨⟨4, 1⟩, ⟨2, 1⟩, 6, 99⟩, ⟨⟨3, 2⟩, ⟨1, 2⟩, 5, 0⟩]
def kR : List Node := [⟨⟨1, 1⟩, ⟨0, 0⟩, 1, 0⟩, ⟨⟨2, 1⟩, ⟨0, 0⟩, 3, 0⟩, ⟨⟨3, 1⟩, ⟨1, 1⟩, 4, 0⟩, ⟨⟨4, 1⟩, ⟨2, 1⟩, 6, 99⟩, ⟨⟨1, 2⟩, ⟨1, 1⟩, 2, 0⟩, ⟨⟨3, 2⟩, ⟨1, 2⟩, 5, 0⟩]
theorem kv_both1 : redpencillaw42_both.f kS kD = some kD := by kernel_rfl
theorem kv_of : redpencillaw42_of.f 10 kS kD kCm kCg 0 = some true := by kernel_rfl
theorem kv_back : redpencillaw42_back.f 10 kD 3 1 kCm kCg kDel kOm kOg 0 = some true := by kernel_rfl
theorem kv_both2 : redpencillaw42_both.f kD kDel = some kK := by kernel_rfl
theorem kv_reads1 : redpencillaw42_reads.f 10 kK ⟨#[97, 98]⟩ = some true := by kernel_rfl
theorem kv_undo0 : backS kD ⟨3, 1⟩ [] [] = (([], 9), ([], [])) := by kernel_rfl
theorem kv_valid : validC kCm kCg = true := by kernel_rfl
theorem kv_undo1 : backS kD ⟨3, 1⟩ [⟨kCm, kCg⟩] [] = ((kDel, 0), ([], [⟨kOm, kOg⟩])) := by kernel_rfl
theorem kv_same : redpencillaw42_same.f 10 kDel kDel = some true := by kernel_rfl
theorem kv_redo : (backS kK ⟨4, 1⟩ [⟨kOm, kOg⟩] []).1 = (kQ, 0) ∧ (backS kK ⟨4, 1⟩ [⟨kOm, kOg⟩] []).2.1 = [] := ⟨by kernel_rfl, by kernel_rfl⟩
theorem kv_both3 : redpencillaw42_both.f kK kQ = some kR := by kernel_rfl
theorem kv_reads2 : redpencillaw42_reads.f 10 kR ⟨#[99]⟩ = some true := by kernel_rfl
end
section
theorem lit_row {α : Type} (D : Kd α) (T : TypeId) (W : World) (base : Nat) (hb : base ≤ W.heap.size) (xs : List α) (n : Nat) (hn : xs.length = n) (cs : Array Value) (hs : cs.size = n * D.sz) (hm : n ≤ 1000000) (hr : ∀ W' ok, Reps (D.M W' base ok) D.sz xs cs.toList) :
  Kd.R D T (W.alloc (.cells cs T (0, 0))) base (fun _ => True) (.slice (some ⟨W.heap.size, 0, none⟩) n n) xs := by
 subst hn
 exact ⟨fun _ _ => trivial, cs.toList, World.ownsRow_lit W cs _ hb (show xs.length ≤ 9223372036854775807 by omega) hs, hr _ _⟩
theorem R_stk {α : Type} {D : Kd α} {T : TypeId} {V V2 : World} {base gs : Nat} {cs : Array Value} {v : Value} {xs : List α} (h : Kd.R D T V base (fun _ => True) v xs) (ht : ∀ q, q ∈ T :: D.E → q ≠ 37) (hS : V.heap[gs]? = some (stkC cs)) (hg : V.grownBy V2 (some gs)) : Kd.R D T V2 base (fun _ => True) v xs :=
 Kd.R_mono (Kd.R_grown (Kd.R_types h hS ht) hg (fun k hk e => hk.2 (Option.some.inj e))) (fun _ _ => trivial)
theorem R_chg {α : Type} {D : Kd α} {T : TypeId} {V V2 : World} {base gs : Nat} {c0 c1 v : Value} {xs : List α} (h : Kd.R D T V base (fun _ => True) v xs) (ht : ∀ q, q ∈ T :: D.E → q ≠ 28) (hS : V.heap[gs]? = some (chgC c0 c1)) (hg : V.grownBy V2 (some gs)) : Kd.R D T V2 base (fun _ => True) v xs :=
 Kd.R_mono (Kd.R_grown (Kd.R_types h hS ht) hg (fun k hk e => hk.2 (Option.some.inj e))) (fun _ _ => trivial)
def kA : Node := ⟨⟨1, 1⟩, ⟨0, 0⟩, 1, 97⟩
def kB : Node := ⟨⟨1, 2⟩, ⟨1, 1⟩, 2, 98⟩
/-- What lies ready in known. -/
structure K42 (w : World) (gC gO : Nat) (vs vd vj vl vm vg vp vq : Value) (V : World) : Prop where
 below : Below w.heap.size w V
 s : RN V w.heap.size vs kS
 d : RN V w.heap.size vd kD
 j : RN V w.heap.size vj kD
 l : RN V w.heap.size vl kDel
 bc : V.heap[gC]? = some (chgC vm vg)
 m : RD V w.heap.size vm kCm
 g : RL V w.heap.size vg kCg
 bo : V.heap[gO]? = some (chgC vp vq)
 p : RD V w.heap.size vp kOm
 q : RL V w.heap.size vq kOg
theorem K42.more {w V V2 : World} {gC gO : Nat} {vs vd vj vl vm vg vp vq : Value} (h : K42 w gC gO vs vd vj vl vm vg vp vq V) (hb : Below V.heap.size V V2) : K42 w gC gO vs vd vj vl vm vg vp vq V2 :=
 ⟨za8 h.below hb, RN.below' h.s hb, RN.below' h.d hb, RN.below' h.j hb, RN.below' h.l hb, zab h.bc hb, RD.below' h.m hb, Kd.R_below h.g hb, zab h.bo hb, RD.below' h.p hb, Kd.R_below h.q hb⟩
theorem K42.stk {w V V2 : World} {gC gO gs : Nat} {cs : Array Value} {vs vd vj vl vm vg vp vq : Value} (h : K42 w gC gO vs vd vj vl vm vg vp vq V) (hS : V.heap[gs]? = some (stkC cs)) (hge : w.heap.size ≤ gs) (hg : V.grownBy V2 (some gs)) : K42 w gC gO vs vd vj vl vm vg vp vq V2 := by
 have ne : ∀ {k : Nat} {c0 c1 : Value}, V.heap[k]? = some (chgC c0 c1) → some k ≠ some gs := fun hk e => by
  rw [Option.some.inj e, hS] at hk; exact absurd (Obj.cells.inj (Option.some.inj hk)).2.1 (by decide)
 exact ⟨h.below.grown hg h.below.size (fun k e => by rw [← Option.some.inj e]; exact hge), R_stk h.s (by decide) hS hg, R_stk h.d (by decide) hS hg, R_stk h.j (by decide) hS hg, R_stk h.l (by decide) hS hg, blk_grown h.bc hg (ne h.bc), R_stk h.m (by decide) hS hg, R_stk h.g (by decide) hS hg, blk_grown h.bo hg (ne h.bo), R_stk h.p (by decide) hS hg, R_stk h.q (by decide) hS hg⟩
structure F9 (w : World) (gC gO : Nat) (vs vd vj vl vm vg vp vq u : Value) (c17 : Bool) (V : World) : Prop where
 k : K42 w gC gO vs vd vj vl vm vg vp vq V
 r : c17 = true → RN V w.heap.size u kK
/-- The second list is laid. -/
structure F4 (w : World) (gA gB gS gD : Nat) (c4 c5 : Bool) (V : World) : Prop where
 o5 : c5 = true → c4 = true
 below : Below w.heap.size w V
 a : V.heap[gA]? = some (boxN (deadN kA))
 b : V.heap[gB]? = some (boxN (deadN kB))
 s : RN V w.heap.size (.slice (some ⟨gS, 0, none⟩) 2 2) kS
 d : c4 = true → RN V w.heap.size (.slice (some ⟨gD, 0, none⟩) 3 3) kD
theorem F4.more {w V V2 : World} {gA gB gS gD : Nat} {c4 c5 : Bool} (h : F4 w gA gB gS gD c4 c5 V) (hb : Below V.heap.size V V2) : F4 w gA gB gS gD c4 c5 V2 := ⟨h.o5, za8 h.below hb, zab h.a hb, zab h.b hb, RN.below' h.s hb, fun e => RN.below' (h.d e) hb⟩
def k42aInv (w : World) (gA gHS : Nat) (z4 z5 z6 z7 z8 z9 z10 z11 z12 z13 z14 z15 z16 z17 z18 z19 z20 z21 z22 z23 z24 z25 z26 z27 z28 z29 z30 z31 z32 z33 z34 z35 z36 z37 z38 z39 z40 z41 z42 z43 z44 z45 z46 z47 z48 z49 z50 z51 z52 z53 z54 z55 z56 z57 z58 z59 z60 z61 z62 z63 z64 z65 z66 z67 z68 z69 z70 z71 z72 z73 z74 z75 z76 z77 z78 z79 z80 z81 z82 z83 z84 z85 z86 z87 z88 z89 z90 z91 z92 z93 z94 z95 z96 z97 z98 z99 z100 z101 z102 z103 z104 z105 z106 z107 z108 z109 z110 z111 z112 z113 z114 z115 z116 z117 z118 z119 z120 z121 z122 z123 z124 z125 z126 z127 z128 z129 z130 z131 z132 z133 z134 z135 z136 z137 z138 z139 z140 z141 z142 : Value) (L : Array Bool) (ac : Act) (V : World) : Prop := ∃ (l0 l1 l2 l3 l4 l5 : Bool) (gD : Nat), L = #[l0, l1, l2, l3, l4, l5] ∧ ac = { tmps := #[.bool false, .pointer (some ⟨gA, 0, none⟩), .pointer (some ⟨gA + 1, 0, none⟩), .slice (some ⟨gHS, 0, none⟩) 2 2, selv l5 (.slice (some ⟨gD, 0, none⟩) 3 3) (z4), z5, z6, z7, z8, z9, z10, z11, z12, z13, z14, z15, z16, z17, z18, z19, z20, z21, z22, z23, z24, selv l0 (.agg #[.int .i64 1, .int .i64 1, .int .i64 0, .int .i64 0, .int .i64 1, .int .i32 0]) (z25), selv l1 (.agg #[.int .i64 2, .int .i64 1]) (z26), selv l2 (.agg #[.int .i64 2, .int .i64 1, .int .i64 0, .int .i64 0, .int .i64 3, .int .i32 99]) (z27), selv l3 (.agg #[.int .i64 1, .int .i64 2, .int .i64 1, .int .i64 1, .int .i64 2, .int .i32 0]) (z28), selv l4 (.slice (some ⟨gD, 0, none⟩) 3 3) (z29), z30, z31, z32, z33, z34, z35, z36, z37, z38, z39, z40, z41, z42, z43, z44, z45, z46, z47, z48, z49, z50, z51, z52, z53, z54, z55, z56, z57, z58, z59, z60, z61, z62, z63, z64, z65, z66, z67, z68, z69, z70, z71, z72, z73, z74, z75, z76, z77, z78, z79, z80, z81, z82, z83, z84, z85, z86, z87, z88, z89, z90, z91, z92, z93, z94, z95, z96, z97, z98, z99, z100, z101, z102, z103, z104, z105, z106, z107, z108, z109, z110, z111, z112, z113, z114, z115, z116, z117, z118, z119, z120, z121, z122, z123, z124, z125, z126, z127, z128, z129, z130, z131, z132, z133, z134, z135, z136, z137, z138, z139, z140, z141, z142], defers := [] } ∧ za0 (F4 w gA (gA + 1) gHS gD l4 l5 V)
def k42bInv (w : World) (gHG gHQ gHS gD gHL gHM gHP cj : Nat) (Aj : Option Addr) (z1 z2 z9 z10 z11 z12 z13 z14 z15 z16 z17 z18 z19 z20 z21 z22 z23 z24 z25 z26 z27 z28 z29 z30 z31 z32 z33 z34 z35 z36 z37 z38 z39 z40 z41 z42 z43 z44 z45 z46 z47 z48 z49 z50 z51 z52 z53 z54 z55 z56 z57 z58 z59 z60 z61 z62 z63 z64 z65 z66 z67 z68 z69 z70 z71 z72 z73 z74 z75 z76 z77 z78 z79 z80 z81 z82 z83 z84 z85 z86 z87 z88 z89 z90 z91 z92 z93 z94 z95 z96 z97 z98 z99 z100 z101 z102 z103 z104 z105 z106 z107 z108 z109 z110 z111 z112 z113 z114 z115 z116 z117 z118 z119 z120 z121 z122 z123 z124 z125 z126 z127 z128 z129 z130 z131 z132 z133 z134 z135 z136 z137 z138 z139 z140 z141 z142 : Value) (L : Array Bool) (ac : Act) (V : World) : Prop := ∃ (l0 l1 l2 l3 l4 l5 l6 l7 l8 l9 l10 l11 l12 l13 l14 l15 l16 l17 l18 l19 l20 : Bool) (u : Value), L = #[l0, l1, l2, l3, l4, l5, l6, l7, l8, l9, l10, l11, l12, l13, l14, l15, l16, l17, l18, l19, l20] ∧ ac = { tmps := #[.bool false, z1, z2, .slice (some ⟨gHS, 0, none⟩) 2 2, .slice (some ⟨gD, 0, none⟩) 3 3, .pointer (some ⟨gHG + 1, 0, none⟩), .slice Aj 3 cj, .slice (some ⟨gHL, 0, none⟩) 3 3, .pointer (some ⟨gHQ + 1, 0, none⟩), z9, z10, z11, z12, z13, z14, z15, z16, z17, z18, z19, z20, z21, z22, z23, z24, z25, z26, z27, z28, z29, z30, z31, z32, z33, z34, z35, z36, z37, z38, z39, z40, z41, z42, z43, z44, z45, z46, z47, z48, z49, z50, z51, z52, z53, z54, z55, z56, selv l0 (.slice (some ⟨gHS, 0, none⟩) 2 2) (z57), selv l1 (.slice (some ⟨gD, 0, none⟩) 3 3) (z58), selv l2 (.agg #[.slice (some ⟨gHM, 0, none⟩) 1 1, .slice (some ⟨gHG, 0, none⟩) 2 2]) (z59), selv l3 (.bool true) (z60), selv l4 (.bool false) (z61), selv l5 (.bool false) (z62), selv l6 (.slice Aj 3 cj) (z63), selv l7 (.agg #[.int .i64 3, .int .i64 1]) (z64), selv l8 (.agg #[.slice (some ⟨gHM, 0, none⟩) 1 1, .slice (some ⟨gHG, 0, none⟩) 2 2]) (z65), selv l9 (.slice (some ⟨gHL, 0, none⟩) 3 3) (z66), selv l10 (.agg #[.slice (some ⟨gHP, 0, none⟩) 2 2, .slice (some ⟨gHQ, 0, none⟩) 1 1]) (z67), selv l11 (.bool true) (z68), selv l12 (.bool false) (z69), selv l13 (.bool false) (z70), selv l14 (.bool false) (z71), selv l15 (.slice Aj 3 cj) (z72), selv l16 (.slice (some ⟨gHL, 0, none⟩) 3 3) (z73), selv l17 (u) (z74), selv l18 (.bool true) (z75), selv l19 (.bool false) (z76), selv l20 (.bool false) (z77), z78, z79, z80, z81, z82, z83, z84, z85, z86, z87, z88, z89, z90, z91, z92, z93, z94, z95, z96, z97, z98, z99, z100, z101, z102, z103, z104, z105, z106, z107, z108, z109, z110, z111, z112, z113, z114, z115, z116, z117, z118, z119, z120, z121, z122, z123, z124, z125, z126, z127, z128, z129, z130, z131, z132, z133, z134, z135, z136, z137, z138, z139, z140, z141, z142], defers := [] } ∧ za0 (F9 w (gHG + 1) (gHQ + 1) (.slice (some ⟨gHS, 0, none⟩) 2 2) (.slice (some ⟨gD, 0, none⟩) 3 3) (.slice Aj 3 cj) (.slice (some ⟨gHL, 0, none⟩) 3 3) (.slice (some ⟨gHM, 0, none⟩) 1 1) (.slice (some ⟨gHG, 0, none⟩) 2 2) (.slice (some ⟨gHP, 0, none⟩) 2 2) (.slice (some ⟨gHQ, 0, none⟩) 1 1) u l17 V)
set_option maxHeartbeats 4000000 in
set_option maxRecDepth 100000 in
theorem known42_call (w : World) : Calls Tryz.prog 7 #[] w fun e w' => e = .returned (.bool true) ∧ Below w.heap.size w w' := by
 have hu := Tryz.underlying42
 have hu2 := Tryz.underlying39
 have hu3 := Tryz.underlying28
 have hu4 := Tryz.underlying37
 have hu5 := Tryz.underlying68
 go_enter Tryz.func7, Tryz.ntmps7
 have HB : za0 (Below w.heap.size w w) := ⟨Below.refl _ _⟩
 go_wp2_with fail
 refine (redpencillaw42_dot.calls 1 1 1 1 _ rfl).mono ?_
 rintro e V1 ⟨rfl, hb⟩
 have HB := za0.mk (za8 HB.out hb)
 clear hb
 go_wp2_with fail
 refine (redpencillaw42_dot.calls 1 2 1 2 _ rfl).mono ?_
 rintro e V2 ⟨rfl, hb⟩
 have HB := za0.mk (za8 HB.out hb)
 clear hb
 go_wp2_with fail
 refine (redpencillaw42_dot.calls 1 1 1 1 _ rfl).mono ?_
 rintro e V3 ⟨rfl, hb⟩
 have HB := za0.mk (za8 HB.out hb)
 clear hb
 have H1 : za0 (((V3.alloc boxZ).alloc boxZ).heap[V3.heap.size]? = some boxZ) := ⟨za6 (zaj _ _) _⟩
 have H2 : za0 (((V3.alloc boxZ).alloc boxZ).heap[V3.heap.size + 1]? = some boxZ) := ⟨by have := zaj (V3.alloc boxZ) boxZ; rwa [World.size_alloc] at this⟩
 have HBZ : za0 (Below w.heap.size w ((V3.alloc boxZ).alloc boxZ)) := ⟨za8 HB.out (za2 (za2 (Below.refl _ V3) _) _)⟩
 have HGE := za0.mk HB.out.size
 go_upto_region 2 with (first | (refine wpList_boxNode rfl (.tmp 1) (.tmp 16) rfl rfl H1.out kA rfl rfl ?_; intro W1 h1 g1; have h2 : W1.heap[V3.heap.size + 1]? = some boxZ := (g1.block _ (zae H2.out) (fun e => by have := Option.some.inj e; omega)).trans H2.out) | (refine wpList_boxNode rfl (.tmp 2) (.tmp 19) rfl rfl h2 kB rfl rfl ?_; intro W2 k2 g2) | fail)
 have K1 : za0 (W2.heap[V3.heap.size]? = some (boxN kA)) := ⟨(g2.block _ (zae h1) (fun e => by have := Option.some.inj e; omega)).trans h1⟩
 have K2 : za0 (W2.heap[V3.heap.size + 1]? = some (boxN kB)) := ⟨k2⟩
 have HB := za0.mk (grown_on g2 (grown_on g1 HBZ.out (fun k e => by have := Option.some.inj e; have := HGE.out; omega)) (fun k e => by have := Option.some.inj e; have := HGE.out; omega))
 clear h1 h2 k2 g1 g2 H1 H2 HBZ
 obtain ⟨gA, HgA⟩ : ∃ g, za0 (V3.heap.size = g) := ⟨_, ⟨rfl⟩⟩
 rw [HgA.out] at K1 K2 HGE ⊢
 clear HgA
 obtain ⟨a0, a1, a2, a3, a4, a5⟩ := box_six K1.out
 obtain ⟨b0, b1, b2, b3, b4, b5⟩ := box_six K2.out
 change _ = some (Value.int .i64 1) at a0 a1 a4
 change _ = some (Value.int .i64 0) at a2 a3
 change _ = some (Value.int .i32 97) at a5
 change _ = some (Value.int .i64 1) at b0 b2 b3
 change _ = some (Value.int .i64 2) at b1 b4
 change _ = some (Value.int .i32 98) at b5
 have HNE : za0 (W2.heap.size ≠ gA ∧ W2.heap.size ≠ gA + 1) := ⟨by have := zae K1.out; have := zae K2.out; omega⟩
 go_upto_region 3 with (fail)
 clear a0 a1 a2 a3 a4 a5 b0 b1 b2 b3 b4 b5
 have hb := za2 (Below.refl W2.heap.size W2) (.cells #[.int .i64 1, .int .i64 1, .int .i64 0, .int .i64 0, .int .i64 1, .int .i32 97, .int .i64 1, .int .i64 2, .int .i64 1, .int .i64 1, .int .i64 2, .int .i32 98] 42 (0, 0) : Obj)
 have HS := za0.mk (lit_nodes W2 w.heap.size HB.out.size kS 2 rfl (by decide) (by decide) #[.int .i64 1, .int .i64 1, .int .i64 0, .int .i64 0, .int .i64 1, .int .i32 97, .int .i64 1, .int .i64 2, .int .i64 1, .int .i64 1, .int .i64 2, .int .i32 98] rfl)
 have HB := za0.mk (za8 HB.out hb)
 have K1 := za0.mk (zab K1.out hb)
 have K2 := za0.mk (zab K2.out hb)
 clear hb
 generalize W2.alloc (.cells #[.int .i64 1, .int .i64 1, .int .i64 0, .int .i64 0, .int .i64 1, .int .i32 97, .int .i64 1, .int .i64 2, .int .i64 1, .int .i64 1, .int .i64 2, .int .i32 98] 42 (0, 0) : Obj) = V4 at *
 generalize W2.heap.size = gHS at *
 have c5 : V4.cell? ⟨gA, 5, none⟩ = some (.int .i32 97) := (za4 K1.out 5).trans rfl
 have f5 := za9 K1.out 5
 have h6 : (V4.setCell ⟨gA, 5, none⟩ (.int .i32 0)).heap[gA + 1]? = some (boxN kB) := (zav (by omega)).trans K2.out
 have c6 : (V4.setCell ⟨gA, 5, none⟩ (.int .i32 0)).cell? ⟨gA + 1, 5, none⟩ = some (.int .i32 98) := (za4 h6 5).trans rfl
 have f6 := za9 h6 5
 have M1 : za0 (((V4.setCell ⟨gA, 5, none⟩ (.int .i32 0)).setCell ⟨gA + 1, 5, none⟩ (.int .i32 0)).heap[gA]? = some (boxN (deadN kA))) := ⟨(zav (by omega)).trans (blk_set K1.out 5 (.int .i32 0))⟩
 have M2 : za0 (((V4.setCell ⟨gA, 5, none⟩ (.int .i32 0)).setCell ⟨gA + 1, 5, none⟩ (.int .i32 0)).heap[gA + 1]? = some (boxN (deadN kB))) := ⟨blk_set h6 5 (.int .i32 0)⟩
 have HB2 : za0 (Below w.heap.size w ((V4.setCell ⟨gA, 5, none⟩ (.int .i32 0)).setCell ⟨gA + 1, 5, none⟩ (.int .i32 0))) := ⟨below_setCell (below_setCell HB.out HGE.out 5 _) (Nat.le_trans HGE.out (Nat.le_succ _)) 5 _⟩
 have HS2 : za0 (RN ((V4.setCell ⟨gA, 5, none⟩ (.int .i32 0)).setCell ⟨gA + 1, 5, none⟩ (.int .i32 0)) w.heap.size (.slice (some ⟨gHS, 0, none⟩) 2 2) kS) := ⟨RN.keep (RN.keep HS.out (fun k hk => zav (by cases hk; exact HNE.out.1))) (fun k hk => zav (by cases hk; exact HNE.out.2))⟩
 clear h6
 go_upto_region 4 with (fail)
 clear c5 f5 c6 f6 K1 K2 HB HS
 generalize ((V4.setCell ⟨gA, 5, none⟩ (.int .i32 0)).setCell ⟨gA + 1, 5, none⟩ (.int .i32 0)) = U0 at *
 have hdw := za3 (Below.refl U0.heap.size U0)
 refine AnyOrder.wp_region (by kernel_rfl) (k42aInv w gA gHS _ _ _ _ _ _ _ _ _ _ _ _ _ _ _ _ _ _ _ _ _ _ _ _ _ _ _ _ _ _ _ _ _ _ _ _ _ _ _ _ _ _ _ _ _ _ _ _ _ _ _ _ _ _ _ _ _ _ _ _ _ _ _ _ _ _ _ _ _ _ _ _ _ _ _ _ _ _ _ _ _ _ _ _ _ _ _ _ _ _ _ _ _ _ _ _ _ _ _ _ _ _ _ _ _ _ _ _ _ _ _ _ _ _ _ _ _ _ _ _ _ _ _ _ _ _ _ _ _ _ _ _ _ _ _ _ _ _ _) ⟨false, false, false, false, false, false, 0, rfl, rfl, ⟨⟨fun h => (by cases h), za8 HB2.out hdw, zab M1.out hdw, zab M2.out hdw, RN.below' HS2.out hdw, fun h => (by cases h)⟩⟩⟩ ?step ?last
 case step =>
  rintro L ac V i ⟨l0, l1, l2, l3, l4, l5, gD, rfl, rfl, HF⟩ hi K hK
  have h1 : i = 0 ∨ i = 1 ∨ i = 2 ∨ i = 3 ∨ i = 4 ∨ i = 5 := by
   have h1 := (AnyOrder.mem_ready hi).1
   clear hi hK
   change i < 6 at h1
   omega
  rcases h1 with rfl | rfl | rfl | rfl | rfl | rfl
  ·
   obtain rfl : l0 = false := (AnyOrder.mem_ready hi).2.1
   clear hi
   obtain ⟨q0, q1, q2, q3, q4, q5⟩ := box_six HF.out.a
   change _ = some (Value.int .i64 1) at q0
   change _ = some (Value.int .i64 1) at q1
   change _ = some (Value.int .i64 0) at q2
   change _ = some (Value.int .i64 0) at q3
   change _ = some (Value.int .i64 1) at q4
   change _ = some (Value.int .i32 0) at q5
   refine AnyOrder.wpOp_go rfl (by rfl) ?_
   go_wp2_with fail
   exact ⟨true, l1, l2, l3, l4, l5, gD, rfl, rfl, HF⟩
  ·
   obtain rfl : l1 = false := (AnyOrder.mem_ready hi).2.1
   clear hi
   refine AnyOrder.wpOp_go rfl (by rfl) ?_
   go_wp2_with fail
   refine (redpencillaw42_dot.calls 2 1 2 1 V rfl).mono ?_
   rintro e V' ⟨rfl, hb⟩
   exact hK _ _ ⟨l0, true, l2, l3, l4, l5, gD, rfl, rfl, ⟨HF.out.more hb⟩⟩
  ·
   obtain rfl : l2 = false := (AnyOrder.mem_ready hi).2.1
   obtain rfl : l1 = true := AnyOrder.dep (q := 0) hi rfl rfl rfl
   clear hi
   simp only [sel_true, selv_true] at hK ⊢
   refine AnyOrder.wpOp_go rfl (by rfl) ?_
   go_wp2_with fail
   exact ⟨l0, true, true, l3, l4, l5, gD, rfl, rfl, HF⟩
  ·
   obtain rfl : l3 = false := (AnyOrder.mem_ready hi).2.1
   clear hi
   obtain ⟨q0, q1, q2, q3, q4, q5⟩ := box_six HF.out.b
   change _ = some (Value.int .i64 1) at q0
   change _ = some (Value.int .i64 2) at q1
   change _ = some (Value.int .i64 1) at q2
   change _ = some (Value.int .i64 1) at q3
   change _ = some (Value.int .i64 2) at q4
   change _ = some (Value.int .i32 0) at q5
   refine AnyOrder.wpOp_go rfl (by rfl) ?_
   go_wp2_with fail
   exact ⟨l0, l1, l2, true, l4, l5, gD, rfl, rfl, HF⟩
  ·
   obtain rfl : l4 = false := (AnyOrder.mem_ready hi).2.1
   obtain rfl : l0 = true := AnyOrder.dep (q := 0) hi rfl rfl rfl
   obtain rfl : l2 = true := AnyOrder.dep (q := 1) hi rfl rfl rfl
   obtain rfl : l3 = true := AnyOrder.dep (q := 2) hi rfl rfl rfl
   clear hi
   simp only [sel_true, selv_true] at hK ⊢
   obtain rfl : l5 = false := by cases l5 with | false => rfl | true => cases HF.out.o5 rfl
   (try simp only [sel_false, selv_false] at hK ⊢)
   have hb := za2 (Below.refl V.heap.size V) (.cells #[.int .i64 1, .int .i64 1, .int .i64 0, .int .i64 0, .int .i64 1, .int .i32 0, .int .i64 2, .int .i64 1, .int .i64 0, .int .i64 0, .int .i64 3, .int .i32 99, .int .i64 1, .int .i64 2, .int .i64 1, .int .i64 1, .int .i64 2, .int .i32 0] 42 (0, 0) : Obj)
   refine AnyOrder.wpOp_go rfl (by rfl) ?_
   go_wp2_with fail
   exact ⟨true, l1, true, true, true, false, V.heap.size, rfl, rfl, ⟨⟨fun h => (by cases h), za8 HF.out.below hb, zab HF.out.a hb, zab HF.out.b hb, RN.below' HF.out.s hb, fun _ => lit_nodes V w.heap.size HF.out.below.size kD 3 rfl (by decide) (by decide) #[.int .i64 1, .int .i64 1, .int .i64 0, .int .i64 0, .int .i64 1, .int .i32 0, .int .i64 2, .int .i64 1, .int .i64 0, .int .i64 0, .int .i64 3, .int .i32 99, .int .i64 1, .int .i64 2, .int .i64 1, .int .i64 1, .int .i64 2, .int .i32 0] rfl⟩⟩⟩
  ·
   obtain rfl : l5 = false := (AnyOrder.mem_ready hi).2.1
   obtain rfl : l4 = true := AnyOrder.dep (q := 0) hi rfl rfl rfl
   obtain rfl : l1 = true := AnyOrder.dep (q := 1) hi rfl rfl rfl
   obtain rfl : l0 = true := AnyOrder.dep (q := 2) hi rfl rfl rfl
   obtain rfl : l2 = true := AnyOrder.dep (q := 4) hi rfl rfl rfl
   obtain rfl : l3 = true := AnyOrder.dep (q := 5) hi rfl rfl rfl
   clear hi
   simp only [sel_true, selv_true] at hK ⊢
   refine AnyOrder.wpOp_go rfl (by rfl) ?_
   go_wp2_with fail
   exact ⟨true, true, true, true, true, true, gD, rfl, rfl, ⟨{ HF.out with o5 := fun _ => rfl }⟩⟩
 case last =>
  rintro L ac V ⟨l0, l1, l2, l3, l4, l5, gD, rfl, rfl, HF⟩ hr
  have hall := AnyOrder.all_listed rfl (by kernel_rfl) hr
  clear hr
  obtain rfl : l0 = true := hall 0 (by decide)
  obtain rfl : l1 = true := hall 1 (by decide)
  obtain rfl : l2 = true := hall 2 (by decide)
  obtain rfl : l3 = true := hall 3 (by decide)
  obtain rfl : l4 = true := hall 4 (by decide)
  obtain rfl : l5 = true := hall 5 (by decide)
  clear hall
  simp only [sel_true, selv_true]
  clear hdw HB2 M1 M2 HS2
  have HB := za0.mk HF.out.below
  have HS := za0.mk HF.out.s
  have HD := za0.mk (HF.out.d rfl)
  clear HF
  generalize V = Y0 at *
  go_wp2_with fail
  refine (redpencillaw42_dot.calls 2 1 2 1 _ rfl).mono ?_
  rintro e V5 ⟨rfl, hb⟩
  have HB := za0.mk (za8 HB.out hb)
  have HS := za0.mk (RN.below' HS.out hb)
  have HD := za0.mk (RN.below' HD.out hb)
  clear hb
  go_wp2_with fail
  have hb := za2 (Below.refl V5.heap.size V5) (.cells #[.int .i64 2, .int .i64 1] 39 (0, 0) : Obj)
  have HM := za0.mk (lit_row k39 39 V5 w.heap.size HB.out.size kCm 1 rfl #[.int .i64 2, .int .i64 1] rfl (by decide) (fun _ _ => Reps.c2 (k39_mkM _ _ _ ⟨2, 1⟩) (Reps.none _ _)))
  have HB := za0.mk (za8 HB.out hb)
  have HS := za0.mk (RN.below' HS.out hb)
  have HD := za0.mk (RN.below' HD.out hb)
  clear hb
  generalize V5.alloc (.cells #[.int .i64 2, .int .i64 1] 39 (0, 0) : Obj) = V6 at *
  generalize V5.heap.size = gHM at *
  refine (redpencillaw42_dot.calls 1 1 1 1 _ rfl).mono ?_
  rintro e V7 ⟨rfl, hb⟩
  have HB := za0.mk (za8 HB.out hb)
  have HS := za0.mk (RN.below' HS.out hb)
  have HD := za0.mk (RN.below' HD.out hb)
  have HM := za0.mk (RD.below' HM.out hb)
  clear hb
  go_wp2_with fail
  refine (redpencillaw42_dot.calls 1 2 1 2 _ rfl).mono ?_
  rintro e V8 ⟨rfl, hb⟩
  have HB := za0.mk (za8 HB.out hb)
  have HS := za0.mk (RN.below' HS.out hb)
  have HD := za0.mk (RN.below' HD.out hb)
  have HM := za0.mk (RD.below' HM.out hb)
  clear hb
  have hb : Below V8.heap.size V8 ((V8.alloc (.cells #[.int .i64 1, .int .i64 1, .int .i32 97, .int .i64 1, .int .i64 2, .int .i32 98] 68 (0, 0) : Obj)).alloc (chgC (.slice none 0 0) (.slice none 0 0))) := za8 (za2 (Below.refl _ _) _) (za2 (Below.refl _ _) _)
  have HG : za0 (RL ((V8.alloc (.cells #[.int .i64 1, .int .i64 1, .int .i32 97, .int .i64 1, .int .i64 2, .int .i32 98] 68 (0, 0) : Obj)).alloc (chgC (.slice none 0 0) (.slice none 0 0))) w.heap.size (.slice (some ⟨V8.heap.size, 0, none⟩) 2 2) kCg) := ⟨Kd.R_below (lit_row k68 68 V8 w.heap.size HB.out.size kCg 2 rfl #[.int .i64 1, .int .i64 1, .int .i32 97, .int .i64 1, .int .i64 2, .int .i32 98] rfl (by decide) (fun _ _ => Reps.c3 (k68_mkM _ _ _ ⟨⟨1, 1⟩, 97⟩) (Reps.c3 (k68_mkM _ _ _ ⟨⟨1, 2⟩, 98⟩) (Reps.none _ _)))) (za2 (Below.refl _ _) _)⟩
  have HC : za0 (((V8.alloc (.cells #[.int .i64 1, .int .i64 1, .int .i32 97, .int .i64 1, .int .i64 2, .int .i32 98] 68 (0, 0) : Obj)).alloc (chgC (.slice none 0 0) (.slice none 0 0))).heap[V8.heap.size + 1]? = some (chgC (.slice none 0 0) (.slice none 0 0))) := ⟨by have := zaj (V8.alloc (.cells #[.int .i64 1, .int .i64 1, .int .i32 97, .int .i64 1, .int .i64 2, .int .i32 98] 68 (0, 0) : Obj)) (chgC (.slice none 0 0) (.slice none 0 0)); rwa [World.size_alloc] at this⟩
  have HGE := za0.mk HB.out.size
  have HB := za0.mk (za8 HB.out hb)
  have HS := za0.mk (RN.below' HS.out hb)
  have HD := za0.mk (RN.below' HD.out hb)
  have HM := za0.mk (RD.below' HM.out hb)
  clear hb
  go_upto_region 6 with (first | (refine zat rfl (.tmp 5) (.tmp 37) rfl rfl HC.out (.slice (some ⟨gHM, 0, none⟩) 1 1) (.slice (some ⟨V8.heap.size, 0, none⟩) 2 2) rfl rfl rfl rfl ?_; intro W1 h1 g1) | fail)
  have HB := za0.mk (grown_on g1 HB.out (fun k e => by have := Option.some.inj e; have := HGE.out; omega))
  have HS := za0.mk (R_chg HS.out (by decide) HC.out g1)
  have HD := za0.mk (R_chg HD.out (by decide) HC.out g1)
  have HM := za0.mk (R_chg HM.out (by decide) HC.out g1)
  have HG := za0.mk (R_chg HG.out (by decide) HC.out g1)
  have HC := za0.mk h1
  clear h1 g1 HGE
  generalize V8.heap.size = gHG at *
  generalize W1 = V9 at *
  have HSZ := za0.mk HB.out.size
  go_wp2_with fail
  refine (redpencillaw42_both.calls _ _ kS _ _ kD kD _ (RN.C HS.out).2.2 (RN.C HS.out).2.1 (RN.C HD.out).2.2 (RN.C HD.out).2.1 kv_both1).mono ?_
  rintro e V10 ⟨vj, rfl, hr, hb⟩
  obtain ⟨Aj, cj, ej⟩ := RN.slice hr
  rw [show kD.length = 3 from rfl] at ej
  subst ej
  have HB := za0.mk (za8 HB.out hb)
  have HS := za0.mk (RN.below' HS.out hb)
  have HD := za0.mk (RN.below' HD.out hb)
  have HM := za0.mk (RD.below' HM.out hb)
  have HG := za0.mk (Kd.R_below HG.out hb)
  have HC := za0.mk (zab HC.out hb)
  have HJ := za0.mk (Kd.R_lower hr HSZ.out)
  clear hb hr
  clear HSZ
  go_wp2_with fail
  refine (redpencillaw42_dot.calls 2 1 2 1 _ rfl).mono ?_
  rintro e V11 ⟨rfl, hb⟩
  have HB := za0.mk (za8 HB.out hb)
  have HS := za0.mk (RN.below' HS.out hb)
  have HD := za0.mk (RN.below' HD.out hb)
  have HM := za0.mk (RD.below' HM.out hb)
  have HG := za0.mk (Kd.R_below HG.out hb)
  have HC := za0.mk (zab HC.out hb)
  have HJ := za0.mk (RN.below' HJ.out hb)
  clear hb
  go_wp2_with fail
  refine (redpencillaw42_dot.calls 3 1 3 1 _ rfl).mono ?_
  rintro e V12 ⟨rfl, hb⟩
  have HB := za0.mk (za8 HB.out hb)
  have HS := za0.mk (RN.below' HS.out hb)
  have HD := za0.mk (RN.below' HD.out hb)
  have HM := za0.mk (RD.below' HM.out hb)
  have HG := za0.mk (Kd.R_below HG.out hb)
  have HC := za0.mk (zab HC.out hb)
  have HJ := za0.mk (RN.below' HJ.out hb)
  clear hb
  go_wp2_with fail
  refine (redpencillaw42_dot.calls 1 1 1 1 _ rfl).mono ?_
  rintro e V13 ⟨rfl, hb⟩
  have HB := za0.mk (za8 HB.out hb)
  have HS := za0.mk (RN.below' HS.out hb)
  have HD := za0.mk (RN.below' HD.out hb)
  have HM := za0.mk (RD.below' HM.out hb)
  have HG := za0.mk (Kd.R_below HG.out hb)
  have HC := za0.mk (zab HC.out hb)
  have HJ := za0.mk (RN.below' HJ.out hb)
  clear hb
  go_wp2_with fail
  refine (redpencillaw42_dot.calls 3 2 3 2 _ rfl).mono ?_
  rintro e V14 ⟨rfl, hb⟩
  have HB := za0.mk (za8 HB.out hb)
  have HS := za0.mk (RN.below' HS.out hb)
  have HD := za0.mk (RN.below' HD.out hb)
  have HM := za0.mk (RD.below' HM.out hb)
  have HG := za0.mk (Kd.R_below HG.out hb)
  have HC := za0.mk (zab HC.out hb)
  have HJ := za0.mk (RN.below' HJ.out hb)
  clear hb
  go_wp2_with fail
  refine (redpencillaw42_dot.calls 1 2 1 2 _ rfl).mono ?_
  rintro e V15 ⟨rfl, hb⟩
  have HB := za0.mk (za8 HB.out hb)
  have HS := za0.mk (RN.below' HS.out hb)
  have HD := za0.mk (RN.below' HD.out hb)
  have HM := za0.mk (RD.below' HM.out hb)
  have HG := za0.mk (Kd.R_below HG.out hb)
  have HC := za0.mk (zab HC.out hb)
  have HJ := za0.mk (RN.below' HJ.out hb)
  clear hb
  go_upto_region 8 with (fail)
  have hb := za2 (Below.refl V15.heap.size V15) (.cells #[.int .i64 2, .int .i64 1, .int .i64 0, .int .i64 0, .int .i64 3, .int .i32 0, .int .i64 3, .int .i64 1, .int .i64 1, .int .i64 1, .int .i64 4, .int .i32 97, .int .i64 3, .int .i64 2, .int .i64 1, .int .i64 2, .int .i64 5, .int .i32 98] 42 (0, 0) : Obj)
  have HL := za0.mk (lit_nodes V15 w.heap.size HB.out.size kDel 3 rfl (by decide) (by decide) #[.int .i64 2, .int .i64 1, .int .i64 0, .int .i64 0, .int .i64 3, .int .i32 0, .int .i64 3, .int .i64 1, .int .i64 1, .int .i64 1, .int .i64 4, .int .i32 97, .int .i64 3, .int .i64 2, .int .i64 1, .int .i64 2, .int .i64 5, .int .i32 98] rfl)
  have HB := za0.mk (za8 HB.out hb)
  have HS := za0.mk (RN.below' HS.out hb)
  have HD := za0.mk (RN.below' HD.out hb)
  have HM := za0.mk (RD.below' HM.out hb)
  have HG := za0.mk (Kd.R_below HG.out hb)
  have HC := za0.mk (zab HC.out hb)
  have HJ := za0.mk (RN.below' HJ.out hb)
  clear hb
  generalize V15.alloc (.cells #[.int .i64 2, .int .i64 1, .int .i64 0, .int .i64 0, .int .i64 3, .int .i32 0, .int .i64 3, .int .i64 1, .int .i64 1, .int .i64 1, .int .i64 4, .int .i32 97, .int .i64 3, .int .i64 2, .int .i64 1, .int .i64 2, .int .i64 5, .int .i32 98] 42 (0, 0) : Obj) = V16 at *
  generalize V15.heap.size = gHL at *
  go_wp2_with fail
  refine (redpencillaw42_dot.calls 3 1 3 1 _ rfl).mono ?_
  rintro e V17 ⟨rfl, hb⟩
  have HB := za0.mk (za8 HB.out hb)
  have HS := za0.mk (RN.below' HS.out hb)
  have HD := za0.mk (RN.below' HD.out hb)
  have HM := za0.mk (RD.below' HM.out hb)
  have HG := za0.mk (Kd.R_below HG.out hb)
  have HC := za0.mk (zab HC.out hb)
  have HJ := za0.mk (RN.below' HJ.out hb)
  have HL := za0.mk (RN.below' HL.out hb)
  clear hb
  go_wp2_with fail
  refine (redpencillaw42_dot.calls 3 2 3 2 _ rfl).mono ?_
  rintro e V18 ⟨rfl, hb⟩
  have HB := za0.mk (za8 HB.out hb)
  have HS := za0.mk (RN.below' HS.out hb)
  have HD := za0.mk (RN.below' HD.out hb)
  have HM := za0.mk (RD.below' HM.out hb)
  have HG := za0.mk (Kd.R_below HG.out hb)
  have HC := za0.mk (zab HC.out hb)
  have HJ := za0.mk (RN.below' HJ.out hb)
  have HL := za0.mk (RN.below' HL.out hb)
  clear hb
  go_wp2_with fail
  have hb := za2 (Below.refl V18.heap.size V18) (.cells #[.int .i64 3, .int .i64 1, .int .i64 3, .int .i64 2] 39 (0, 0) : Obj)
  have HP := za0.mk (lit_row k39 39 V18 w.heap.size HB.out.size kOm 2 rfl #[.int .i64 3, .int .i64 1, .int .i64 3, .int .i64 2] rfl (by decide) (fun _ _ => Reps.c2 (k39_mkM _ _ _ ⟨3, 1⟩) (Reps.c2 (k39_mkM _ _ _ ⟨3, 2⟩) (Reps.none _ _))))
  have HB := za0.mk (za8 HB.out hb)
  have HS := za0.mk (RN.below' HS.out hb)
  have HD := za0.mk (RN.below' HD.out hb)
  have HM := za0.mk (RD.below' HM.out hb)
  have HG := za0.mk (Kd.R_below HG.out hb)
  have HC := za0.mk (zab HC.out hb)
  have HJ := za0.mk (RN.below' HJ.out hb)
  have HL := za0.mk (RN.below' HL.out hb)
  clear hb
  generalize V18.alloc (.cells #[.int .i64 3, .int .i64 1, .int .i64 3, .int .i64 2] 39 (0, 0) : Obj) = V19 at *
  generalize V18.heap.size = gHP at *
  refine (redpencillaw42_dot.calls 2 1 2 1 _ rfl).mono ?_
  rintro e V20 ⟨rfl, hb⟩
  have HB := za0.mk (za8 HB.out hb)
  have HS := za0.mk (RN.below' HS.out hb)
  have HD := za0.mk (RN.below' HD.out hb)
  have HM := za0.mk (RD.below' HM.out hb)
  have HG := za0.mk (Kd.R_below HG.out hb)
  have HC := za0.mk (zab HC.out hb)
  have HJ := za0.mk (RN.below' HJ.out hb)
  have HL := za0.mk (RN.below' HL.out hb)
  have HP := za0.mk (RD.below' HP.out hb)
  clear hb
  have HC0 := HC
  have hb : Below V20.heap.size V20 ((V20.alloc (.cells #[.int .i64 2, .int .i64 1, .int .i32 99] 68 (0, 0) : Obj)).alloc (chgC (.slice none 0 0) (.slice none 0 0))) := za8 (za2 (Below.refl _ _) _) (za2 (Below.refl _ _) _)
  have HQ : za0 (RL ((V20.alloc (.cells #[.int .i64 2, .int .i64 1, .int .i32 99] 68 (0, 0) : Obj)).alloc (chgC (.slice none 0 0) (.slice none 0 0))) w.heap.size (.slice (some ⟨V20.heap.size, 0, none⟩) 1 1) kOg) := ⟨Kd.R_below (lit_row k68 68 V20 w.heap.size HB.out.size kOg 1 rfl #[.int .i64 2, .int .i64 1, .int .i32 99] rfl (by decide) (fun _ _ => Reps.c3 (k68_mkM _ _ _ ⟨⟨2, 1⟩, 99⟩) (Reps.none _ _))) (za2 (Below.refl _ _) _)⟩
  have HO : za0 (((V20.alloc (.cells #[.int .i64 2, .int .i64 1, .int .i32 99] 68 (0, 0) : Obj)).alloc (chgC (.slice none 0 0) (.slice none 0 0))).heap[V20.heap.size + 1]? = some (chgC (.slice none 0 0) (.slice none 0 0))) := ⟨by have := zaj (V20.alloc (.cells #[.int .i64 2, .int .i64 1, .int .i32 99] 68 (0, 0) : Obj)) (chgC (.slice none 0 0) (.slice none 0 0)); rwa [World.size_alloc] at this⟩
  have HGE := za0.mk HB.out.size
  have HB := za0.mk (za8 HB.out hb)
  have HS := za0.mk (RN.below' HS.out hb)
  have HD := za0.mk (RN.below' HD.out hb)
  have HM := za0.mk (RD.below' HM.out hb)
  have HG := za0.mk (Kd.R_below HG.out hb)
  have HC := za0.mk (zab HC.out hb)
  have HJ := za0.mk (RN.below' HJ.out hb)
  have HL := za0.mk (RN.below' HL.out hb)
  have HP := za0.mk (RD.below' HP.out hb)
  clear hb
  go_upto_region 9 with (first | (refine zat rfl (.tmp 8) (.tmp 56) rfl rfl HO.out (.slice (some ⟨gHP, 0, none⟩) 2 2) (.slice (some ⟨V20.heap.size, 0, none⟩) 1 1) rfl rfl rfl rfl ?_; intro W1 h1 g1) | fail)
  have HB := za0.mk (grown_on g1 HB.out (fun k e => by have := Option.some.inj e; have := HGE.out; omega))
  have HS := za0.mk (R_chg HS.out (by decide) HO.out g1)
  have HD := za0.mk (R_chg HD.out (by decide) HO.out g1)
  have HM := za0.mk (R_chg HM.out (by decide) HO.out g1)
  have HG := za0.mk (R_chg HG.out (by decide) HO.out g1)
  have HC := za0.mk (blk_grown HC.out g1 (fun e => by have h9 := zae HC0.out; have := Option.some.inj e; omega))
  have HJ := za0.mk (R_chg HJ.out (by decide) HO.out g1)
  have HL := za0.mk (R_chg HL.out (by decide) HO.out g1)
  have HP := za0.mk (R_chg HP.out (by decide) HO.out g1)
  have HQ := za0.mk (R_chg HQ.out (by decide) HO.out g1)
  have HO := za0.mk h1
  clear h1 g1 HGE
  generalize V20.heap.size = gHQ at *
  generalize W1 = V21 at *
  clear HC0
  have HK : za0 (K42 w (gHG + 1) (gHQ + 1) (.slice (some ⟨gHS, 0, none⟩) 2 2) (.slice (some ⟨gD, 0, none⟩) 3 3) (.slice Aj 3 cj) (.slice (some ⟨gHL, 0, none⟩) 3 3) (.slice (some ⟨gHM, 0, none⟩) 1 1) (.slice (some ⟨gHG, 0, none⟩) 2 2) (.slice (some ⟨gHP, 0, none⟩) 2 2) (.slice (some ⟨gHQ, 0, none⟩) 1 1) V21) := ⟨⟨HB.out, HS.out, HD.out, HJ.out, HL.out, HC.out, HM.out, HG.out, HO.out, HP.out, HQ.out⟩⟩
  clear HB HS HD HJ HL HC HM HG HO HP HQ
  refine AnyOrder.wp_region (by kernel_rfl) (k42bInv w gHG gHQ gHS gD gHL gHM gHP cj Aj _ _ _ _ _ _ _ _ _ _ _ _ _ _ _ _ _ _ _ _ _ _ _ _ _ _ _ _ _ _ _ _ _ _ _ _ _ _ _ _ _ _ _ _ _ _ _ _ _ _ _ _ _ _ _ _ _ _ _ _ _ _ _ _ _ _ _ _ _ _ _ _ _ _ _ _ _ _ _ _ _ _ _ _ _ _ _ _ _ _ _ _ _ _ _ _ _ _ _ _ _ _ _ _ _ _ _ _ _ _ _ _ _ _ _ _ _ _ _ _ _ _ _ _ _ _ _ _ _ _ _ _ _ _ _ _) ⟨false, false, false, false, false, false, false, false, false, false, false, false, false, false, false, false, false, false, false, false, false, undef, rfl, rfl, ⟨⟨HK.out.more (za3 (Below.refl _ _)), fun h => (by cases h)⟩⟩⟩ ?step ?last
  case step =>
   rintro L ac V i ⟨l0, l1, l2, l3, l4, l5, l6, l7, l8, l9, l10, l11, l12, l13, l14, l15, l16, l17, l18, l19, l20, u, rfl, rfl, HF⟩ hi K hK
   have h1 : i = 0 ∨ i = 1 ∨ i = 2 ∨ i = 3 ∨ i = 4 ∨ i = 5 ∨ i = 6 ∨ i = 7 ∨ i = 8 ∨ i = 9 ∨ i = 10 ∨ i = 11 ∨ i = 12 ∨ i = 13 ∨ i = 14 ∨ i = 15 ∨ i = 16 ∨ i = 17 ∨ i = 18 ∨ i = 19 ∨ i = 20 := by
    have h1 := (AnyOrder.mem_ready hi).1
    clear hi hK
    change i < 21 at h1
    omega
   rcases h1 with rfl | rfl | rfl | rfl | rfl | rfl | rfl | rfl | rfl | rfl | rfl | rfl | rfl | rfl | rfl | rfl | rfl | rfl | rfl | rfl | rfl
   ·
    obtain rfl : l0 = false := (AnyOrder.mem_ready hi).2.1
    clear hi
    refine AnyOrder.wpOp_go rfl (by rfl) ?_
    go_wp2_with fail
    exact ⟨true, l1, l2, l3, l4, l5, l6, l7, l8, l9, l10, l11, l12, l13, l14, l15, l16, l17, l18, l19, l20, u, rfl, rfl, HF⟩
   ·
    obtain rfl : l1 = false := (AnyOrder.mem_ready hi).2.1
    clear hi
    refine AnyOrder.wpOp_go rfl (by rfl) ?_
    go_wp2_with fail
    exact ⟨l0, true, l2, l3, l4, l5, l6, l7, l8, l9, l10, l11, l12, l13, l14, l15, l16, l17, l18, l19, l20, u, rfl, rfl, HF⟩
   ·
    obtain rfl : l2 = false := (AnyOrder.mem_ready hi).2.1
    clear hi
    have c0 := (za4 HF.out.k.bc 0).trans rfl
    have c1 := (za4 HF.out.k.bc 1).trans rfl
    refine AnyOrder.wpOp_go rfl (by rfl) ?_
    go_wp2_with fail
    exact ⟨l0, l1, true, l3, l4, l5, l6, l7, l8, l9, l10, l11, l12, l13, l14, l15, l16, l17, l18, l19, l20, u, rfl, rfl, HF⟩
   ·
    obtain rfl : l3 = false := (AnyOrder.mem_ready hi).2.1
    obtain rfl : l0 = true := AnyOrder.dep (q := 0) hi rfl rfl rfl
    obtain rfl : l1 = true := AnyOrder.dep (q := 1) hi rfl rfl rfl
    obtain rfl : l2 = true := AnyOrder.dep (q := 2) hi rfl rfl rfl
    clear hi
    simp only [sel_true, selv_true] at hK ⊢
    refine AnyOrder.wpOp_go rfl (by rfl) ?_
    go_wp2_with fail
    refine (redpencillaw42_of.calls 10 _ _ kS _ _ kD _ _ kCm _ _ kCg 0 true V (RN.C HF.out.k.s).2.2 (RN.C HF.out.k.s).2.1 (RN.C HF.out.k.d).2.2 (RN.C HF.out.k.d).2.1 (RD.C HF.out.k.m).2.2 (RD.C HF.out.k.m).2.1 (Kd.R_reads' HF.out.k.g).2.2 (Kd.R_reads' HF.out.k.g).2.1 kv_of).mono ?_
    rintro e V' ⟨rfl, hb⟩
    exact hK _ _ ⟨true, true, true, true, l4, l5, l6, l7, l8, l9, l10, l11, l12, l13, l14, l15, l16, l17, l18, l19, l20, u, rfl, rfl, ⟨⟨HF.out.k.more hb, fun h => RN.below' (HF.out.r h) hb⟩⟩⟩
   ·
    obtain rfl : l4 = false := (AnyOrder.mem_ready hi).2.1
    obtain rfl : l3 = true := AnyOrder.dep (q := 0) hi rfl rfl rfl
    clear hi
    simp only [sel_true, selv_true] at hK ⊢
    refine AnyOrder.wpOp_go rfl (by rfl) ?_
    go_wp2_with fail
    exact ⟨l0, l1, l2, true, true, l5, l6, l7, l8, l9, l10, l11, l12, l13, l14, l15, l16, l17, l18, l19, l20, u, rfl, rfl, HF⟩
   ·
    obtain rfl : l5 = false := (AnyOrder.mem_ready hi).2.1
    obtain rfl : l4 = true := AnyOrder.dep (q := 0) hi rfl rfl rfl
    obtain rfl : l3 = true := AnyOrder.dep (q := 1) hi rfl rfl rfl
    clear hi
    simp only [sel_true, selv_true] at hK ⊢
    refine AnyOrder.wpOp_go rfl (by rfl) ?_
    go_wp2_with fail
    exact ⟨l0, l1, l2, true, true, true, l6, l7, l8, l9, l10, l11, l12, l13, l14, l15, l16, l17, l18, l19, l20, u, rfl, rfl, HF⟩
   ·
    obtain rfl : l6 = false := (AnyOrder.mem_ready hi).2.1
    obtain rfl : l5 = true := AnyOrder.dep (q := 0) hi rfl rfl rfl
    clear hi
    simp only [sel_true, selv_true] at hK ⊢
    refine AnyOrder.wpOp_go rfl (by rfl) ?_
    go_wp2_with fail
    exact ⟨l0, l1, l2, l3, l4, true, true, l7, l8, l9, l10, l11, l12, l13, l14, l15, l16, l17, l18, l19, l20, u, rfl, rfl, HF⟩
   ·
    obtain rfl : l7 = false := (AnyOrder.mem_ready hi).2.1
    obtain rfl : l5 = true := AnyOrder.dep (q := 0) hi rfl rfl rfl
    clear hi
    simp only [sel_true, selv_true] at hK ⊢
    refine AnyOrder.wpOp_go rfl (by rfl) ?_
    go_wp2_with fail
    refine (redpencillaw42_dot.calls 3 1 3 1 V rfl).mono ?_
    rintro e V' ⟨rfl, hb⟩
    exact hK _ _ ⟨l0, l1, l2, l3, l4, true, l6, true, l8, l9, l10, l11, l12, l13, l14, l15, l16, l17, l18, l19, l20, u, rfl, rfl, ⟨⟨HF.out.k.more hb, fun h => RN.below' (HF.out.r h) hb⟩⟩⟩
   ·
    obtain rfl : l8 = false := (AnyOrder.mem_ready hi).2.1
    obtain rfl : l5 = true := AnyOrder.dep (q := 0) hi rfl rfl rfl
    clear hi
    simp only [sel_true, selv_true] at hK ⊢
    have c0 := (za4 HF.out.k.bc 0).trans rfl
    have c1 := (za4 HF.out.k.bc 1).trans rfl
    refine AnyOrder.wpOp_go rfl (by rfl) ?_
    go_wp2_with fail
    exact ⟨l0, l1, l2, l3, l4, true, l6, l7, true, l9, l10, l11, l12, l13, l14, l15, l16, l17, l18, l19, l20, u, rfl, rfl, HF⟩
   ·
    obtain rfl : l9 = false := (AnyOrder.mem_ready hi).2.1
    obtain rfl : l5 = true := AnyOrder.dep (q := 0) hi rfl rfl rfl
    clear hi
    simp only [sel_true, selv_true] at hK ⊢
    refine AnyOrder.wpOp_go rfl (by rfl) ?_
    go_wp2_with fail
    exact ⟨l0, l1, l2, l3, l4, true, l6, l7, l8, true, l10, l11, l12, l13, l14, l15, l16, l17, l18, l19, l20, u, rfl, rfl, HF⟩
   ·
    obtain rfl : l10 = false := (AnyOrder.mem_ready hi).2.1
    obtain rfl : l5 = true := AnyOrder.dep (q := 0) hi rfl rfl rfl
    clear hi
    simp only [sel_true, selv_true] at hK ⊢
    have c0 := (za4 HF.out.k.bo 0).trans rfl
    have c1 := (za4 HF.out.k.bo 1).trans rfl
    refine AnyOrder.wpOp_go rfl (by rfl) ?_
    go_wp2_with fail
    exact ⟨l0, l1, l2, l3, l4, true, l6, l7, l8, l9, true, l11, l12, l13, l14, l15, l16, l17, l18, l19, l20, u, rfl, rfl, HF⟩
   ·
    obtain rfl : l11 = false := (AnyOrder.mem_ready hi).2.1
    obtain rfl : l6 = true := AnyOrder.dep (q := 0) hi rfl rfl rfl
    obtain rfl : l7 = true := AnyOrder.dep (q := 1) hi rfl rfl rfl
    obtain rfl : l8 = true := AnyOrder.dep (q := 2) hi rfl rfl rfl
    obtain rfl : l9 = true := AnyOrder.dep (q := 3) hi rfl rfl rfl
    obtain rfl : l10 = true := AnyOrder.dep (q := 4) hi rfl rfl rfl
    obtain rfl : l5 = true := AnyOrder.dep (q := 6) hi rfl rfl rfl
    clear hi
    simp only [sel_true, selv_true] at hK ⊢
    refine AnyOrder.wpOp_go rfl (by rfl) ?_
    go_wp2_with fail
    refine (redpencillaw42_back.calls 10 _ _ kD 3 1 _ _ kCm _ _ kCg _ _ kDel _ _ kOm _ _ kOg 0 true V (RN.C HF.out.k.j).2.2 (RN.C HF.out.k.j).2.1 (RD.C HF.out.k.m).2.2 (RD.C HF.out.k.m).2.1 (Kd.R_reads' HF.out.k.g).2.2 (Kd.R_reads' HF.out.k.g).2.1 (RN.C HF.out.k.l).2.2 (RN.C HF.out.k.l).2.1 (RD.C HF.out.k.p).2.2 (RD.C HF.out.k.p).2.1 (Kd.R_reads' HF.out.k.q).2.2 (Kd.R_reads' HF.out.k.q).2.1 kv_back).mono ?_
    rintro e V' ⟨rfl, hb⟩
    exact hK _ _ ⟨l0, l1, l2, l3, l4, true, true, true, true, true, true, true, l12, l13, l14, l15, l16, l17, l18, l19, l20, u, rfl, rfl, ⟨⟨HF.out.k.more hb, fun h => RN.below' (HF.out.r h) hb⟩⟩⟩
   ·
    obtain rfl : l12 = false := (AnyOrder.mem_ready hi).2.1
    obtain rfl : l11 = true := AnyOrder.dep (q := 0) hi rfl rfl rfl
    obtain rfl : l5 = true := AnyOrder.dep (q := 1) hi rfl rfl rfl
    clear hi
    simp only [sel_true, selv_true] at hK ⊢
    refine AnyOrder.wpOp_go rfl (by rfl) ?_
    go_wp2_with fail
    exact ⟨l0, l1, l2, l3, l4, true, l6, l7, l8, l9, l10, true, true, l13, l14, l15, l16, l17, l18, l19, l20, u, rfl, rfl, HF⟩
   ·
    obtain rfl : l13 = false := (AnyOrder.mem_ready hi).2.1
    obtain rfl : l5 = true := AnyOrder.dep (q := 0) hi rfl rfl rfl
    obtain rfl : l12 = true := AnyOrder.dep (q := 1) hi rfl rfl rfl
    clear hi
    simp only [sel_true, selv_true] at hK ⊢
    refine AnyOrder.wpOp_go rfl (by rfl) ?_
    go_wp2_with fail
    exact ⟨l0, l1, l2, l3, l4, true, l6, l7, l8, l9, l10, l11, true, true, l14, l15, l16, l17, l18, l19, l20, u, rfl, rfl, HF⟩
   ·
    obtain rfl : l14 = false := (AnyOrder.mem_ready hi).2.1
    obtain rfl : l13 = true := AnyOrder.dep (q := 0) hi rfl rfl rfl
    obtain rfl : l11 = true := AnyOrder.dep (q := 1) hi rfl rfl rfl
    clear hi
    simp only [sel_true, selv_true] at hK ⊢
    refine AnyOrder.wpOp_go rfl (by rfl) ?_
    go_wp2_with fail
    exact ⟨l0, l1, l2, l3, l4, l5, l6, l7, l8, l9, l10, true, l12, true, true, l15, l16, l17, l18, l19, l20, u, rfl, rfl, HF⟩
   ·
    obtain rfl : l15 = false := (AnyOrder.mem_ready hi).2.1
    obtain rfl : l14 = true := AnyOrder.dep (q := 0) hi rfl rfl rfl
    clear hi
    simp only [sel_true, selv_true] at hK ⊢
    refine AnyOrder.wpOp_go rfl (by rfl) ?_
    go_wp2_with fail
    exact ⟨l0, l1, l2, l3, l4, l5, l6, l7, l8, l9, l10, l11, l12, l13, true, true, l16, l17, l18, l19, l20, u, rfl, rfl, HF⟩
   ·
    obtain rfl : l16 = false := (AnyOrder.mem_ready hi).2.1
    obtain rfl : l14 = true := AnyOrder.dep (q := 0) hi rfl rfl rfl
    clear hi
    simp only [sel_true, selv_true] at hK ⊢
    refine AnyOrder.wpOp_go rfl (by rfl) ?_
    go_wp2_with fail
    exact ⟨l0, l1, l2, l3, l4, l5, l6, l7, l8, l9, l10, l11, l12, l13, true, l15, true, l17, l18, l19, l20, u, rfl, rfl, HF⟩
   ·
    obtain rfl : l17 = false := (AnyOrder.mem_ready hi).2.1
    obtain rfl : l15 = true := AnyOrder.dep (q := 0) hi rfl rfl rfl
    obtain rfl : l16 = true := AnyOrder.dep (q := 1) hi rfl rfl rfl
    obtain rfl : l14 = true := AnyOrder.dep (q := 2) hi rfl rfl rfl
    clear hi
    simp only [sel_true, selv_true] at hK ⊢
    refine AnyOrder.wpOp_go rfl (by rfl) ?_
    go_wp2_with fail
    refine (redpencillaw42_both.calls _ _ kD _ _ kDel kK V (RN.C HF.out.k.j).2.2 (RN.C HF.out.k.j).2.1 (RN.C HF.out.k.l).2.2 (RN.C HF.out.k.l).2.1 kv_both2).mono ?_
    rintro e V' ⟨v, rfl, hr, hb⟩
    exact hK _ _ ⟨l0, l1, l2, l3, l4, l5, l6, l7, l8, l9, l10, l11, l12, l13, true, true, true, true, l18, l19, l20, v, rfl, rfl, ⟨⟨HF.out.k.more hb, fun _ => Kd.R_lower hr HF.out.k.below.size⟩⟩⟩
   ·
    obtain rfl : l18 = false := (AnyOrder.mem_ready hi).2.1
    obtain rfl : l17 = true := AnyOrder.dep (q := 0) hi rfl rfl rfl
    obtain rfl : l14 = true := AnyOrder.dep (q := 2) hi rfl rfl rfl
    clear hi
    simp only [sel_true, selv_true] at hK ⊢
    obtain ⟨Ak, ck, rfl⟩ := RN.slice (HF.out.r rfl)
    refine AnyOrder.wpOp_go rfl (by rfl) ?_
    go_wp2_with fail
    refine (redpencillaw42_reads.calls 10 _ _ kK ⟨#[97, 98]⟩ true V (RN.C (HF.out.r rfl)).2.2 (RN.C (HF.out.r rfl)).2.1 kv_reads1).mono ?_
    rintro e V' ⟨rfl, hb⟩
    exact hK _ _ ⟨l0, l1, l2, l3, l4, l5, l6, l7, l8, l9, l10, l11, l12, l13, true, l15, l16, true, true, l19, l20, .slice Ak kK.length ck, rfl, rfl, ⟨⟨HF.out.k.more hb, fun h => RN.below' (HF.out.r h) hb⟩⟩⟩
   ·
    obtain rfl : l19 = false := (AnyOrder.mem_ready hi).2.1
    obtain rfl : l18 = true := AnyOrder.dep (q := 0) hi rfl rfl rfl
    obtain rfl : l14 = true := AnyOrder.dep (q := 1) hi rfl rfl rfl
    clear hi
    simp only [sel_true, selv_true] at hK ⊢
    refine AnyOrder.wpOp_go rfl (by rfl) ?_
    go_wp2_with fail
    exact ⟨l0, l1, l2, l3, l4, l5, l6, l7, l8, l9, l10, l11, l12, l13, true, l15, l16, l17, true, true, l20, u, rfl, rfl, HF⟩
   ·
    obtain rfl : l20 = false := (AnyOrder.mem_ready hi).2.1
    obtain rfl : l14 = true := AnyOrder.dep (q := 0) hi rfl rfl rfl
    obtain rfl : l19 = true := AnyOrder.dep (q := 1) hi rfl rfl rfl
    clear hi
    simp only [sel_true, selv_true] at hK ⊢
    refine AnyOrder.wpOp_go rfl (by rfl) ?_
    go_wp2_with fail
    exact ⟨l0, l1, l2, l3, l4, l5, l6, l7, l8, l9, l10, l11, l12, l13, true, l15, l16, l17, l18, true, true, u, rfl, rfl, HF⟩
  case last =>
   rintro L ac V ⟨l0, l1, l2, l3, l4, l5, l6, l7, l8, l9, l10, l11, l12, l13, l14, l15, l16, l17, l18, l19, l20, u, rfl, rfl, HF⟩ hr
   have hall := AnyOrder.all_listed rfl (by kernel_rfl) hr
   clear hr
   obtain rfl : l0 = true := hall 0 (by decide)
   obtain rfl : l1 = true := hall 1 (by decide)
   obtain rfl : l2 = true := hall 2 (by decide)
   obtain rfl : l3 = true := hall 3 (by decide)
   obtain rfl : l4 = true := hall 4 (by decide)
   obtain rfl : l5 = true := hall 5 (by decide)
   obtain rfl : l6 = true := hall 6 (by decide)
   obtain rfl : l7 = true := hall 7 (by decide)
   obtain rfl : l8 = true := hall 8 (by decide)
   obtain rfl : l9 = true := hall 9 (by decide)
   obtain rfl : l10 = true := hall 10 (by decide)
   obtain rfl : l11 = true := hall 11 (by decide)
   obtain rfl : l12 = true := hall 12 (by decide)
   obtain rfl : l13 = true := hall 13 (by decide)
   obtain rfl : l14 = true := hall 14 (by decide)
   obtain rfl : l15 = true := hall 15 (by decide)
   obtain rfl : l16 = true := hall 16 (by decide)
   obtain rfl : l17 = true := hall 17 (by decide)
   obtain rfl : l18 = true := hall 18 (by decide)
   obtain rfl : l19 = true := hall 19 (by decide)
   obtain rfl : l20 = true := hall 20 (by decide)
   clear hall
   simp only [sel_true, selv_true]
   have HK := za0.mk HF.out.k
   clear HF
   generalize V = X0 at *
   go_wp2_with fail
   have HST := za0.mk (zaj X0 (stkC #[.slice none 0 0, .slice none 0 0]))
   have HGS := za0.mk HK.out.below.size
   have hb := za2 (Below.refl X0.heap.size X0) (stkC #[.slice none 0 0, .slice none 0 0])
   have HK := za0.mk (K42.more HK.out hb)
   clear hb
   generalize X0.alloc (stkC #[.slice none 0 0, .slice none 0 0]) = X1 at *
   generalize X0.heap.size = gs at *
   refine (redpencillaw42_dot.calls 3 1 3 1 _ rfl).mono ?_
   rintro e V22 ⟨rfl, hb⟩
   have HK := za0.mk (K42.more HK.out hb)
   have HST := za0.mk (zab HST.out hb)
   clear hb
   go_wp2_with fail
   refine (stackUndo_call gs w.heap.size (.slice none 0 0) (.slice none 0 0) [] [] _ _ kD ⟨3, 1⟩ V22 HST.out (Kd.Q_nil _ _ _ _ _) (Kd.Q_nil _ _ _ _ _) HGS.out (RN.C HK.out.j).2.2 (RN.C HK.out.j).2.1 ⟨by decide, by decide, by decide, by decide⟩).mono ?_
   rintro e X23 ⟨x, rfl, hrn, x1, x2, hst, h1, h2, hg, h6⟩
   rw [show (backS kD ⟨3, 1⟩ [] []).1.2 = 9 from congrArg (·.1.2) kv_undo0] at h6 ⊢
   obtain ⟨rfl, rfl⟩ := h6 (by decide)
   have HK := za0.mk (HK.out.stk HST.out HGS.out hg)
   have HST : za0 (X23.heap[gs]? = some (stkC #[.slice none 0 0, .slice none 0 0])) := ⟨hst⟩
   clear hrn hst h1 h2 hg
   have c0 := (za4 HK.out.bc 0).trans rfl
   have c1 := (za4 HK.out.bc 1).trans rfl
   go_wp2_with fail
   clear c0 c1
   refine (stackPush_call gs w.heap.size (.slice none 0 0) (.slice none 0 0) [] _ _ kCm _ _ kCg X23 HST.out (Kd.Q_nil _ _ _ _ _) HGS.out rfl (RD.C HK.out.m).2.2 (Kd.R_reads' HK.out.g).2.2 (by decide) (by decide)).mono ?_
   rintro e X24 (⟨hv, _, _⟩ | ⟨_, rfl, vu, hst, hru, ht⟩)
   ·
    rw [kv_valid] at hv; cases hv
   have hg : X23.grownBy X24 (some gs) := ⟨ht.os, ht.tape, ht.output, ht.size, fun i hi hn => ht.block i hi (fun e => e.elim (fun e => hn (by rw [e])) (fun e => by cases e))⟩
   have HK := za0.mk (HK.out.stk HST.out HGS.out hg)
   have HST := za0.mk hst
   have HRU : za0 (RC X24 w.heap.size vu [⟨kCm, kCg⟩]) := ⟨hru⟩
   clear hst hru ht hg
   go_wp2_with fail
   refine (redpencillaw42_dot.calls 3 1 3 1 _ rfl).mono ?_
   rintro e V25 ⟨rfl, hb⟩
   have HK := za0.mk (K42.more HK.out hb)
   have HST := za0.mk (zab HST.out hb)
   have HRU := za0.mk (Kd.Q_below HRU.out hb)
   clear hb
   go_wp2_with fail
   refine (stackUndo_call gs w.heap.size (vu) (.slice none 0 0) [⟨kCm, kCg⟩] [] _ _ kD ⟨3, 1⟩ V25 HST.out HRU.out (Kd.Q_nil _ _ _ _ _) HGS.out (RN.C HK.out.j).2.2 (RN.C HK.out.j).2.1 ⟨by decide, by decide, by decide, by decide⟩).mono ?_
   rintro e X26 ⟨x, rfl, hrn, x1, x2, hst, h1, h2, hg, h6⟩
   rw [show (backS kD ⟨3, 1⟩ [⟨kCm, kCg⟩] []).1.2 = 0 from congrArg (·.1.2) kv_undo1] at h6 ⊢
   have HK := za0.mk (HK.out.stk HST.out HGS.out hg)
   clear HRU h6
   rw [kv_undo1] at hrn h1 h2
   change RN _ _ _ kDel at hrn
   change RC _ _ _ [] at h1
   change RC _ _ _ [⟨kOm, kOg⟩] at h2
   obtain ⟨A1, q1, rfl, _⟩ := Kd.Q_slice h1
   obtain ⟨A2, q2, rfl, _⟩ := Kd.Q_slice h2
   obtain ⟨Ap, cp, rfl⟩ := RN.slice hrn
   have HRN := za0.mk hrn
   have HR1 := za0.mk h1
   have HR2 := za0.mk h2
   have HST : za0 (X26.heap[gs]? = some (stkC #[.slice A1 0 q1, .slice A2 1 q2])) := ⟨hst⟩
   clear hrn h1 h2 hst hg
   go_wp2_with fail
   refine (redpencillaw42_same.calls 10 _ _ kDel _ _ kDel true X26 (RN.C HRN.out).2.2 (RN.C HRN.out).2.1 (RN.C HK.out.l).2.2 (RN.C HK.out.l).2.1 kv_same).mono ?_
   rintro e X27 ⟨rfl, hd⟩
   have hb := (Gr.drawn hd).below
   have HK := za0.mk (K42.more HK.out hb)
   have HST := za0.mk (zab HST.out hb)
   have HRN := za0.mk (RN.below' HRN.out hb)
   have HR1 := za0.mk (Kd.Q_below HR1.out hb)
   have HR2 := za0.mk (Kd.Q_below HR2.out hb)
   clear hb hd
   go_wp2_with fail
   refine (stackUndos_call gs A1 A2 0 1 q1 q2 X27 HST.out).mono ?_
   rintro e w8 ⟨rfl, rfl⟩
   go_wp2_with fail
   refine (stackRedos_call gs A1 A2 0 1 q1 q2 w8 HST.out).mono ?_
   rintro e w9 ⟨rfl, rfl⟩
   go_wp2_with fail
   refine (redpencillaw42_both.calls _ _ kD _ _ kDel kK _ (RN.C HK.out.j).2.2 (RN.C HK.out.j).2.1 (RN.C HK.out.l).2.2 (RN.C HK.out.l).2.1 kv_both2).mono ?_
   rintro e X28 ⟨vk, rfl, hr, hb⟩
   obtain ⟨Ak, ck, rfl⟩ := RN.slice hr
   have HK := za0.mk (K42.more HK.out hb)
   have HST := za0.mk (zab HST.out hb)
   have HRN := za0.mk (RN.below' HRN.out hb)
   have HR1 := za0.mk (Kd.Q_below HR1.out hb)
   have HR2 := za0.mk (Kd.Q_below HR2.out hb)
   have HKK := za0.mk hr
   clear hb hr
   go_wp2_with fail
   refine (redpencillaw42_dot.calls 4 1 4 1 _ rfl).mono ?_
   rintro e V29 ⟨rfl, hb⟩
   have HK := za0.mk (K42.more HK.out hb)
   have HST := za0.mk (zab HST.out hb)
   have HRN := za0.mk (RN.below' HRN.out hb)
   have HR1 := za0.mk (Kd.Q_below HR1.out hb)
   have HR2 := za0.mk (Kd.Q_below HR2.out hb)
   have HKK := za0.mk (RN.below' HKK.out hb)
   clear hb
   go_wp2_with fail
   refine (stackRedo_call gs w.heap.size (.slice A1 0 q1) (.slice A2 1 q2) [] [⟨kOm, kOg⟩] _ _ kK ⟨4, 1⟩ V29 HST.out HR1.out HR2.out HGS.out (RN.C HKK.out).2.2 (RN.C HKK.out).2.1 ⟨by decide, by decide, by decide, by decide⟩).mono ?_
   rintro e X30 ⟨x, rfl, hrn, x1, x2, hst, h1, h2, hg, h6⟩
   rw [show (backS kK ⟨4, 1⟩ [⟨kOm, kOg⟩] []).1.2 = 0 from congrArg (·.2) kv_redo.1] at h6 ⊢
   have HKK := za0.mk (R_stk HKK.out (by decide) HST.out hg)
   have HK := za0.mk (HK.out.stk HST.out HGS.out hg)
   clear HR1 HR2 HRN h6
   rw [show (backS kK ⟨4, 1⟩ [⟨kOm, kOg⟩] []).1.1 = kQ from congrArg (·.1) kv_redo.1] at hrn
   rw [kv_redo.2] at h1
   obtain ⟨A3, q3, rfl, _⟩ := Kd.Q_slice h1
   obtain ⟨A4, q4, rfl, _⟩ := Kd.Q_slice h2
   obtain ⟨Aq, cq, rfl⟩ := RN.slice hrn
   obtain ⟨n4, Hn4⟩ : ∃ n, za0 ((backS kK ⟨4, 1⟩ [⟨kOm, kOg⟩] []).2.2.length = n) := ⟨_, ⟨rfl⟩⟩
   have HST : za0 (X30.heap[gs]? = some (stkC #[.slice A4 n4 q4, .slice A3 0 q3])) := ⟨by rw [← Hn4.out]; exact hst⟩
   have HRN := za0.mk hrn
   clear hrn h1 h2 hst hg Hn4
   go_wp2_with fail
   refine (redpencillaw42_both.calls _ _ kK _ _ kQ kR _ (RN.C HKK.out).2.2 (RN.C HKK.out).2.1 (RN.C HRN.out).2.2 (RN.C HRN.out).2.1 kv_both3).mono ?_
   rintro e X31 ⟨vr, rfl, hr, hb⟩
   obtain ⟨Ar, cr, rfl⟩ := RN.slice hr
   have HK := za0.mk (K42.more HK.out hb)
   have HST := za0.mk (zab HST.out hb)
   have HRN := za0.mk (RN.below' HRN.out hb)
   have HKK := za0.mk (RN.below' HKK.out hb)
   have HRR := za0.mk hr
   clear hb hr
   go_wp2_with fail
   refine (redpencillaw42_reads.calls 10 _ _ kR ⟨#[99]⟩ true _ (RN.C HRR.out).2.2 (RN.C HRR.out).2.1 kv_reads2).mono ?_
   rintro e X32 ⟨rfl, hb⟩
   have HK := za0.mk (K42.more HK.out hb)
   have HST := za0.mk (zab HST.out hb)
   have HRN := za0.mk (RN.below' HRN.out hb)
   have HKK := za0.mk (RN.below' HKK.out hb)
   have HRR := za0.mk (RN.below' HRR.out hb)
   clear hb
   go_wp2_with fail
   refine (stackRedos_call gs A4 A3 n4 0 q4 q3 X32 HST.out).mono ?_
   rintro e w10 ⟨rfl, rfl⟩
   go_wp2
   go_ret
   exact ⟨rfl, HK.out.below⟩
end
end Go.Proofs.YtefejajofmpjdaaGreat.PWalk
end
section
namespace Go.Proofs.YtefejajofmpjdaaGreat.PWalk
section

end
end Go.Proofs.YtefejajofmpjdaaGreat.PWalk
end
section
namespace Go.Proofs.YtefejajofmpjdaaGreat.PWalk
open Go.RowKit Go.Proofs.YtefejajofmpjdaaGreatW.PrintWords Go.Proofs.YtefejajofmpjdaaGreatW.PrintLast Go.Proofs.YtefejajofmpjdaaGreatW.PrintMore
set_option linter.unusedVariables false
set_option linter.unusedSimpArgs false
open Go.Shelf
attribute [local go_sem] Oper.semAt_some
section
def fnd (l : List Node) (d : Dot) : Option Node := l.find? fun x => decide (x.f0 = d)
theorem nodes_rev (l : List Node) (d : Dot) : ∀ m : List (Dot × Node), MapLaw.mget (l.foldl (fun m x => MapLaw.mset m x.f0 x) m) d = (fnd l.reverse d).or (MapLaw.mget m d) := by
 induction l with
 | nil => intro m; rfl
 | cons x l ih =>
  intro m
  rw [List.foldl_cons, ih, MapLaw.mget_mset, List.reverse_cons]
  unfold fnd
  rw [List.find?_append, Option.or_assoc]
  congr 1
  rw [List.find?_cons]
  by_cases h : d = x.f0
  ·
   rw [if_pos h, decide_eq_true h.symm]; rfl
  ·
   rw [if_neg h, decide_eq_false (Ne.symm h)]; rfl
theorem fnd_some {l : List Node} {d : Dot} {x : Node} (h : fnd l d = some x) : x ∈ l ∧ x.f0 = d := ⟨List.mem_of_find?_eq_some h, by have := List.find?_some h; simpa using this⟩
theorem fnd_none {l : List Node} {d : Dot} (h : fnd l d = none) : ∀ x ∈ l, x.f0 ≠ d := by
 intro x hx
 have := List.find?_eq_none.1 h x hx
 simpa using this
theorem inc_same {l : List Node} (h : Inc l) {x y : Node} (hx : x ∈ l) (hy : y ∈ l) (e : x.f0 = y.f0) : x = y := by
 obtain ⟨i, hi⟩ := List.getElem?_of_mem hx
 obtain ⟨j, hj⟩ := List.getElem?_of_mem hy
 have := inc_unique h hi hj e
 subst this
 rw [hi] at hj
 exact Option.some.inj hj
theorem nodesM_fnd {l : List Node} (h : Inc l) (d : Dot) : MapLaw.mget (nodesM l) d = fnd l d := by
 unfold nodesM
 rw [nodes_rev]
 show (fnd l.reverse d).or none = _
 rw [Option.or_none]
 cases h1 : fnd l d with
 | none =>
  cases h2 : fnd l.reverse d with
  | none => rfl
  | some y => exact absurd (fnd_some h2).2 (fnd_none h1 y (List.mem_reverse.1 (fnd_some h2).1))
 | some x =>
  cases h2 : fnd l.reverse d with
  | none => exact absurd (fnd_some h1).2 (fnd_none h2 x (List.mem_reverse.2 (fnd_some h1).1))
  | some y => rw [inc_same h (List.mem_reverse.1 (fnd_some h2).1) (fnd_some h1).1 ((fnd_some h2).2.trans (fnd_some h1).2.symm)]
end
section
def flN (i k : Nat) : Node := ⟨⟨1, (k : Int) + 1⟩, ⟨0, 0⟩, (k : Int) + 1, if k < i then 97 else 0⟩
def flat (n i : Nat) : List Node := (List.range n).map (flN i)
theorem flat_len (n i : Nat) : (flat n i).length = n := by unfold flat; simp
theorem flat_get {n i k : Nat} (h : k < n) : (flat n i)[k]? = some (flN i k) := by unfold flat; simp [h]
theorem flat_mem {n i : Nat} {x : Node} : x ∈ flat n i ↔ ∃ k, k < n ∧ flN i k = x := by unfold flat; simp
theorem flat_lt {i a b : Nat} (h : a < b) : dotLt (flN i a).f0 (flN i b).f0 = true := by unfold dotLt flN; simp; omega
theorem flat_inc (n i : Nat) : Inc (flat n i) := List.pairwise_map.2 (List.pairwise_lt_range.imp fun h => flat_lt h)
theorem flat_ok {n i : Nat} (hn : n ≤ 1000) : ∀ x ∈ flat n i, nodeOk x = true := by
 intro x hx
 obtain ⟨k, hk, rfl⟩ := flat_mem.1 hx
 unfold nodeOk flN dotOk dotRoot
 by_cases h : k < i
 ·
  rw [if_pos h]
  have : runeOk 97 = true := by decide
  simp [this]; omega
 ·
  rw [if_neg h]
  simp; omega
theorem flat_store {n i : Nat} (hn : n ≤ 1000) : storeOk (flat n i) = true := by
 unfold storeOk
 rw [Bool.and_eq_true]
 refine ⟨List.all_eq_true.2 (flat_ok hn), incB_adj fun j a b ha hb => ?_⟩
 rw [List.getElem?_map] at ha hb
 obtain ⟨x, hx, rfl⟩ := Option.map_eq_some_iff.1 ha
 obtain ⟨y, hy, rfl⟩ := Option.map_eq_some_iff.1 hb
 have h1 : j + 1 < n := by have := (List.getElem?_eq_some_iff.1 hy).1; rwa [flat_len] at this
 rw [flat_get h1] at hy
 rw [flat_get (by omega)] at hx
 cases hx; cases hy
 exact flat_lt (Nat.lt_succ_self j)
theorem flat_stand {n i k : Nat} (h : k < n) : Stand (flat n i) (flN i k) := .root _ (flat_mem.2 ⟨k, h, rfl⟩) (by unfold dotRoot flN; simp)
theorem flat_well {n i : Nat} (hn : n ≤ 1000) : wellB (flat n i) = true := by
 unfold wellB faultsOf
 rw [faultsUpto_nil (fun j hj => by
  rw [flat_len] at hj
  exact stand_flaw (flat_ok hn) (flat_inc n i) (flat_get hj) (flat_stand hj))]
 rfl
theorem joinOf_dead : ∀ (A : List Node) (x : Node) (B : List Node), (∀ y ∈ A, dotLt y.f0 x.f0 = true) → joinOf (A ++ x :: B) [deadN x] = some (A ++ deadN x :: B)
 | [], x, B, _ => by
  have hm : mergeN x (deadN x) = some (deadN x) := by unfold mergeN deadN; simp
  have hd : ¬ dotLt x.f0 (deadN x).f0 = true := by rw [show (deadN x).f0 = x.f0 from rfl, dotLt_irrefl]; decide
  have hd2 : ¬ dotLt (deadN x).f0 x.f0 = true := by rw [show (deadN x).f0 = x.f0 from rfl, dotLt_irrefl]; decide
  rw [List.nil_append, joinOf_cons, if_neg hd, if_neg hd2, hm, Option.bind_some, joinOf_nil2]; rfl
 | y :: A, x, B, h => by
  rw [List.cons_append, joinOf_cons, if_pos (show dotLt y.f0 (deadN x).f0 = true from h y List.mem_cons_self), joinOf_dead A x B fun z hz => h z (List.mem_cons_of_mem _ hz)]; rfl
theorem flN_lt {i k : Nat} (h : k < i) : flN (i + 1) k = flN i k := by unfold flN; rw [if_pos h, if_pos (by omega)]
theorem flN_gt {i k : Nat} (h : i < k) : flN (i + 1) k = flN i k := by unfold flN; rw [if_neg (by omega), if_neg (by omega)]
theorem flN_dead (i : Nat) : deadN (flN (i + 1) i) = flN i i := by unfold flN deadN; rw [if_neg (Nat.lt_irrefl i)]
theorem flat_split (j i m : Nat) : flat (i + (m + 1)) j = (List.range i).map (flN j) ++ flN j i :: (List.range m).map (fun q => flN j (i + (q + 1))) := by
 unfold flat
 rw [List.range_add, List.map_append, List.range_succ_eq_map]
 simp [Function.comp_def]
theorem flat_dead {n i : Nat} (h : i < n) : joinOf (flat n (i + 1)) [deadN (flN (i + 1) i)] = some (flat n i) := by
 obtain ⟨m, rfl⟩ : ∃ m, n = i + (m + 1) := ⟨n - i - 1, by omega⟩
 rw [flat_split, flat_split, joinOf_dead _ _ _ fun y hy => by
  obtain ⟨k, hk, rfl⟩ := List.mem_map.1 hy
  exact flat_lt (List.mem_range.1 hk), flN_dead]
 congr 2
 ·
  exact List.map_congr_left fun k hk => flN_lt (List.mem_range.1 hk)
 ·
  congr 1
  exact List.map_congr_left fun k _ => flN_gt (by omega)
theorem mget_one (y : Node) (d : Dot) : MapLaw.mget (nodesM [y]) d = if d = y.f0 then some y else none := by
 show MapLaw.mget (MapLaw.mset [] y.f0 y) d = _
 rw [MapLaw.mget_mset, MapLaw.mget_nil]
theorem ofStep_one {s : List Node} {y o : Node} (ho : MapLaw.mget (nodesM s) y.f0 = some o) (h1 : o.f3 ≠ 0) (h2 : y.f3 = 0) :
  ∀ (O : List Node) (c : List Dot × List LostE), O.Pairwise (fun a b => a.f0 ≠ b.f0) → O.foldl (ofStep s [y]) c = if y.f0 ∈ O.map (·.f0) then (c.1, c.2 ++ [⟨y.f0, o.f3⟩]) else c
 | [], c, _ => by simp
 | z :: O, c, hp => by
  obtain ⟨hp1, hp2⟩ := List.pairwise_cons.1 hp
  rw [List.foldl_cons, ofStep_one ho h1 h2 O _ hp2]
  have hs : ofStep s [y] c z = if z.f0 = y.f0 then (c.1, c.2 ++ [⟨y.f0, o.f3⟩]) else c := by
   unfold ofStep
   rw [mget_one]
   by_cases hz : z.f0 = y.f0
   ·
    rw [if_pos hz, if_pos hz, hz]
    dsimp only
    rw [ho]
    dsimp only
    rw [if_pos ⟨h1, h2⟩]
   ·
    rw [if_neg hz, if_neg hz]
  rw [hs]
  by_cases hz : z.f0 = y.f0
  ·
   rw [if_pos hz, if_neg (fun hm => by
    obtain ⟨b, hb, e⟩ := List.mem_map.1 hm
    exact hp1 b hb (by rw [hz, e])), if_pos (by rw [List.map_cons, hz]; exact List.mem_cons_self)]
  ·
   rw [if_neg hz]
   by_cases hm : y.f0 ∈ O.map (·.f0)
   ·
    rw [if_pos hm, if_pos (by rw [List.map_cons]; exact List.mem_cons_of_mem _ hm)]
   ·
    rw [if_neg hm, if_neg (fun h => by
     rw [List.map_cons] at h
     rcases List.mem_cons.1 h with h | h
     ·
      exact hz h.symm
     ·
      exact hm h)]
theorem flat_ord {n i k : Nat} (hn : n ≤ 1000) (hk : k < n) : (flN i k).f0 ∈ ((ordOf (flat n i)).map (·.2)).map (·.f0) := by
 obtain ⟨U, hU⟩ := stand_path (flat_stand (i := i) hk)
 exact List.mem_map.2 ⟨_, List.mem_map.2 ⟨_, path_mem (store_of (flat_store hn)) hU _ U rfl, rfl⟩, rfl⟩
theorem ord_dots {l : List Node} (hs : Store l) : ((ordOf l).map (·.2)).Pairwise (fun a b => a.f0 ≠ b.f0) :=
 List.Pairwise.imp_of_mem (fun {a b} ha hb hab e => hab (inc_same hs.inc (by obtain ⟨p, hp, rfl⟩ := List.mem_map.1 ha; exact ord_mem hs hp) (by obtain ⟨p, hp, rfl⟩ := List.mem_map.1 hb; exact ord_mem hs hp) e)) (ord_nodup hs)
theorem flat_fnd {n i k : Nat} (hk : k < n) : MapLaw.mget (nodesM (flat n i)) (flN i k).f0 = some (flN i k) := by
 rw [nodesM_fnd (flat_inc n i)]
 cases h : fnd (flat n i) (flN i k).f0 with
 | none => exact absurd rfl (fnd_none h _ (flat_mem.2 ⟨k, hk, rfl⟩))
 | some y => rw [inc_same (flat_inc n i) (fnd_some h).1 (flat_mem.2 ⟨k, hk, rfl⟩) (fnd_some h).2]
theorem one_store {x : Node} (h : nodeOk x = true) : storeOk [x] = true := by unfold storeOk; simp [h, incB]
theorem flat_of {n i : Nat} (hn : n ≤ 1000) (hi : i < n) : undoOfR (flat n (i + 1)) [deadN (flN (i + 1) i)] = ([], [⟨⟨1, (i : Int) + 1⟩, 97⟩], 0) := by
 have hx : nodeOk (deadN (flN (i + 1) i)) = true := by rw [flN_dead]; exact flat_ok hn _ (flat_mem.2 ⟨i, hi, rfl⟩)
 unfold undoOfR
 rw [if_pos ⟨flat_store hn, one_store hx, flat_well hn⟩, flat_dead hi]
 dsimp only
 rw [if_pos (flat_well hn)]
 unfold ofC
 rw [ofStep_one (y := deadN (flN (i + 1) i)) (o := flN (i + 1) i) (flat_fnd hi) (by unfold flN; rw [if_pos (Nat.lt_succ_self i)]; show ¬ (97 : Int) = 0; decide) rfl _ _ (ord_dots (store_of (flat_store hn))), if_pos (by have := flat_ord (i := i) hn hi; exact this)]
 unfold flN
 simp [deadN]
theorem flat_backOk {n i : Nat} (hn : n ≤ 1000) (m : List Dot) (hm : m.Nodup) : backOk (flat n i) ⟨2, 1⟩ m [] = true := by
 unfold backOk validC
 rw [flat_store hn, flat_well hn, decide_eq_true hm]
 simp
theorem flat_back {n i : Nat} (hn : n ≤ 1000) (hi : i < n) : backR (flat n (i + 1)) ⟨2, 1⟩ [⟨1, (i : Int) + 1⟩] [] = ([deadN (flN (i + 1) i)], [], [⟨⟨1, (i : Int) + 1⟩, 97⟩], 0) := by
 have hg : backG (flat n (i + 1)) ⟨2, 1⟩ [⟨1, (i : Int) + 1⟩] [] = ([deadN (flN (i + 1) i)], 0) := by
  unfold backG goneN madeC
  have hf : madeF (flat n (i + 1)) ⟨1, (i : Int) + 1⟩ = some (deadN (flN (i + 1) i)) := by
   unfold madeF
   rw [show (⟨1, (i : Int) + 1⟩ : Dot) = (flN (i + 1) i).f0 from rfl, flat_fnd hi, Option.bind_some, if_neg (by unfold flN; rw [if_pos (Nat.lt_succ_self i)]; show ¬ (97 : Int) = 0; decide)]
  rw [List.filterMap_cons_some hf]; rfl
 unfold backR
 rw [if_pos (flat_backOk hn _ (by simp)), hg]
 dsimp only
 rw [show sortD [deadN (flN (i + 1) i)] = [deadN (flN (i + 1) i)] from rfl, flat_of hn hi]
 unfold backE
 rw [if_neg (fun h => h rfl), if_neg (fun h => h rfl)]
 rfl
theorem flat_none {n i : Nat} (hn : n ≤ 1000) : (backR (flat n i) ⟨2, 1⟩ [] []).2.2.2 = 0 := by
 have hu : (undoOfR (flat n i) []).2.2 = 0 := by
  unfold undoOfR
  rw [if_pos ⟨flat_store hn, rfl, flat_well hn⟩, joinOf_nil2]
  dsimp only
  rw [if_pos (flat_well hn)]
 unfold backR
 rw [if_pos (flat_backOk hn [] List.nodup_nil)]
 show (backE ([], 0) (undoOfR (flat n i) [])).2.2.2 = 0
 unfold backE
 rw [if_neg (fun h => h rfl), hu, if_neg (fun h => h rfl)]
def pC (k : Nat) : ChgP := ⟨[⟨1, (k : Int) + 1⟩], []⟩
def tC (k : Nat) : ChgP := ⟨[], [⟨⟨1, (k : Int) + 1⟩, 97⟩]⟩
def pU (n : Nat) : List ChgP := ((List.range n).map pC).drop (n - 100)
def fromL (n i : Nat) : List ChgP := ((List.range i).map pC).drop (n - 100)
def toL (n i : Nat) : List ChgP := (List.range (n - i)).map fun q => tC (n - 1 - q)
theorem pU_len (n : Nat) : (pU n).length = n - (n - 100) := by unfold pU; simp
theorem pU_push (n : Nat) : putC (pU n) (pC n) = pU (n + 1) := by
 unfold putC
 rw [pU_len]
 unfold pU
 rw [List.range_succ, List.map_append]
 have hl : ((List.range n).map pC).length = n := by simp
 by_cases h : n < 100
 ·
  rw [show n - 100 = 0 by omega, show n + 1 - 100 = 0 by omega, show n - 0 + 1 - 100 = 0 by omega]; rfl
 ·
  rw [show n - (n - 100) + 1 - 100 = 1 by omega, show n + 1 - 100 = (n - 100) + 1 by omega, ← List.drop_drop, show ((List.range n).map pC ++ [n].map pC).drop (n - 100) = ((List.range n).map pC).drop (n - 100) ++ [pC n] from List.drop_append_of_le_length (by rw [hl]; omega)]
theorem ren_dead (x : Node) (us : List ChgP) : renC [deadN x] us = us := by
 have hn : nowM [deadN x] = [] := rfl
 unfold renC
 rw [hn]
 have hd : renD [] = id := by funext d; rfl
 have hl : renL [] = id := by funext d; rfl
 have hp : renP [] = id := by
  funext c
  unfold renP
  rw [hd, hl, List.map_id, List.map_id]; rfl
 rw [hp, List.map_id]
theorem fromL_len (n i : Nat) : (fromL n i).length = i - (n - 100) := by unfold fromL; simp
theorem toL_len (n i : Nat) : (toL n i).length = n - i := by unfold toL; simp
theorem fromL_succ {n j : Nat} (h : n - 100 ≤ j) : fromL n (j + 1) = fromL n j ++ [pC j] := by
 unfold fromL
 rw [List.range_succ, List.map_append, List.drop_append_of_le_length (by simp; omega)]; rfl
theorem toL_put {n j : Nat} (hj : j < n) (h : n - 100 ≤ j) : putC (toL n (j + 1)) (tC j) = toL n j := by
 unfold putC
 rw [toL_len, show n - (j + 1) + 1 - 100 = 0 by omega, List.drop_zero]
 unfold toL
 rw [show n - j = n - (j + 1) + 1 by omega, List.range_succ, List.map_append, List.map_singleton, show n - 1 - (n - (j + 1)) = j by omega]
theorem flat_undo {n j : Nat} (hn : n ≤ 1000) (hj : j < n) (h : n - 100 ≤ j) : backS (flat n (j + 1)) ⟨2, 1⟩ (fromL n (j + 1)) (toL n (j + 1)) = (([deadN (flN (j + 1) j)], 0), (fromL n j, toL n j)) := by
 have hl : lastC (fromL n (j + 1)) = pC j := by unfold lastC; rw [fromL_succ h, List.getLast?_append]; rfl
 unfold backS
 rw [hl, show (pC j).f0 = [⟨1, (j : Int) + 1⟩] from rfl, show (pC j).f1 = [] from rfl, flat_back hn hj]
 rw [if_neg (show ¬ (0 : Int) = 2 by decide), if_neg (by rw [fromL_succ h]; simp), if_neg (fun h => h rfl)]
 rw [ren_dead, ren_dead, fromL_succ h, List.dropLast_concat]
 rw [← toL_put hj h]; rfl
theorem flat_undo0 {n i : Nat} (hn : n ≤ 1000) (ts : List ChgP) : backS (flat n i) ⟨2, 1⟩ [] ts = (([], 9), ([], ts)) := by
 unfold backS
 rw [show lastC [] = ⟨[], []⟩ from rfl, flat_none hn, if_neg (by decide), if_pos rfl]
end
section
theorem flat_both {n i : Nat} (hn : n ≤ 1000) (hi : i < n) : redpencillaw42_both.f (flat n (i + 1)) [deadN (flN (i + 1) i)] = some (flat n i) := by
 have hx : nodeOk (deadN (flN (i + 1) i)) = true := by rw [flN_dead]; exact flat_ok hn _ (flat_mem.2 ⟨i, hi, rfl⟩)
 unfold redpencillaw42_both.f join_Join.f
 rw [if_pos (by rw [flat_len]; simp; omega), Option.bind_some]
 unfold joinR
 rw [if_pos ⟨flat_store hn, one_store hx⟩, flat_dead hi]
theorem flat_next (k n : Nat) : flat (k + 1) n = flat k n ++ [flN n k] := by unfold flat; rw [List.range_succ, List.map_append]; rfl
theorem fits_flat {n i : Nat} (hn : n ≤ 104) (hi : i ≤ n) : Fits (flat n i) (fromL n i) (toL n i) := by
 refine ⟨by rw [flat_len]; omega, by rw [fromL_len]; omega, by rw [toL_len]; omega, fun c hc => ?_⟩
 rcases List.mem_append.1 hc with h | h
 ·
  obtain ⟨k, _, rfl⟩ := List.mem_map.1 (List.mem_of_mem_drop h)
  simp [pC]
 ·
  obtain ⟨k, _, rfl⟩ := List.mem_map.1 h
  simp [tC]
theorem RC.byNode {V V2 : World} {base b2 : Nat} {v s : Value} {us : List ChgP} {l : List Node} (h : RC V base v us) (hs : RN V b2 s l) (hg : V.grownBy V2 s.ownBlock) : RC V2 base v us := by
 cases e : s.ownBlock with
 | none => rw [e] at hg; exact Kd.Q_grown h hg (fun k _ => by simp)
 | some g =>
  obtain ⟨_, cur, hc⟩ := RN.block hs e
  rw [e] at hg
  exact Kd.Q_mono (Kd.Q_grown (Kd.Q_types h hc (by decide)) hg (fun k hk e2 => hk.2 (Option.some.inj e2))) (fun _ _ => trivial)
/-- What the first loop of UndoDepth keeps. -/
structure DeF (w : World) (gs n k : Nat) (s vu : Value) (V : World) : Prop where
 below : Below w.heap.size w V
 st : V.heap[gs]? = some (stkC #[vu, .slice none 0 0])
 ru : RC V w.heap.size vu (pU k)
 rn : RN V w.heap.size s (flat k n)
theorem DeF.more {w V V2 : World} {gs n k : Nat} {s vu : Value} (h : DeF w gs n k s vu V) (hb : Below V.heap.size V V2) : DeF w gs n k s vu V2 := ⟨za8 h.below hb, zab h.st hb, Kd.Q_below h.ru hb, RN.below' h.rn hb⟩
theorem DeF.put {w V V2 : World} {gs n k : Nat} {s vu s2 : Value} {l : List Node} (h : DeF w gs n k s vu V) (hr : RN V2 w.heap.size s2 l) (hg : V.grownBy V2 s.ownBlock) : Below w.heap.size w V2 ∧ V2.heap[gs]? = some (stkC #[vu, .slice none 0 0]) ∧ RC V2 w.heap.size vu (pU k) := by
 refine ⟨h.below.grown hg h.below.size (fun k e => (RN.block h.rn e).1), blk_grown h.st hg (fun e => ?_), h.ru.byNode h.rn hg⟩
 obtain ⟨_, cur, hc⟩ := RN.block h.rn e.symm
 rw [h.st] at hc; exact absurd (Obj.cells.inj (Option.some.inj hc)).2.1 (by decide)
/-- What the second loop keeps. -/
structure De2 (w : World) (gs n j : Nat) (s vu vr : Value) (V : World) : Prop where
 below : Below w.heap.size w V
 st : V.heap[gs]? = some (stkC #[vu, vr])
 ru : RC V w.heap.size vu (fromL n j)
 rr : RC V w.heap.size vr (toL n j)
 rn : RN V w.heap.size s (flat n j)
theorem De2.more {w V V2 : World} {gs n j : Nat} {s vu vr : Value} (h : De2 w gs n j s vu vr V) (hb : Below V.heap.size V V2) : De2 w gs n j s vu vr V2 := ⟨za8 h.below hb, zab h.st hb, Kd.Q_below h.ru hb, Kd.Q_below h.rr hb, RN.below' h.rn hb⟩
/-- In its round, after one change was taken back. -/
structure De3 (w : World) (gs n q : Nat) (s vd vu vr : Value) (V : World) : Prop where
 below : Below w.heap.size w V
 st : V.heap[gs]? = some (stkC #[vu, vr])
 ru : RC V w.heap.size vu (fromL n q)
 rr : RC V w.heap.size vr (toL n q)
 rn : RN V w.heap.size s (flat n (q + 1))
 rd : RN V w.heap.size vd [deadN (flN (q + 1) q)]
theorem De3.more {w V V2 : World} {gs n q : Nat} {s vd vu vr : Value} (h : De3 w gs n q s vd vu vr V) (hb : Below V.heap.size V V2) : De3 w gs n q s vd vu vr V2 := ⟨za8 h.below hb, zab h.st hb, Kd.Q_below h.ru hb, Kd.Q_below h.rr hb, RN.below' h.rn hb, RN.below' h.rd hb⟩
section
attribute [local go_sem high] eqA39
def depthInv (w : World) (n q gd cd : Nat) (s x1 x2 : Value) (z0 z1 z2 z3 z4 z5 z9 z10 z11 z12 z13 z14 z15 z16 z17 z18 z19 z20 z21 z22 z23 z24 z25 z26 z27 z28 z29 z30 z31 z32 z33 z34 z35 z36 z37 z38 z39 z40 z41 z42 z43 z44 z45 z46 z47 z48 z49 z50 z51 z52 z53 z54 z55 z56 z57 z58 z59 z60 z61 z62 z63 z64 z65 z66 z67 z68 z69 z70 z71 z72 z73 z74 z75 z76 z77 z78 z79 z80 z81 z82 z83 z84 z85 z86 z87 z88 z89 z90 z91 z92 z93 z94 z95 z96 z97 z98 z99 z100 z101 z102 z103 : Value) (L : Array Bool) (ac : Act) (V : World) : Prop := ∃ (l0 l1 l2 l3 l4 l5 l6 l7 l8 l9 l10 l11 l12 l13 l14 l15 l16 l17 l18 l19 l20 l21 l22 : Bool), L = #[l0, l1, l2, l3, l4, l5, l6, l7, l8, l9, l10, l11, l12, l13, l14, l15, l16, l17, l18, l19, l20, l21, l22] ∧ ac = { tmps := #[z0, z1, z2, z3, z4, z5, .int .i64 ((q : Int) + 1), .slice (some ⟨gd, 0, none⟩) 1 cd, .int .i64 0, z9, z10, z11, z12, z13, z14, z15, z16, z17, z18, z19, z20, z21, z22, z23, z24, z25, z26, z27, z28, z29, z30, z31, z32, z33, z34, z35, z36, z37, z38, z39, z40, z41, z42, z43, z44, z45, z46, z47, z48, z49, z50, z51, z52, z53, z54, z55, z56, z57, z58, selv l0 (.int .i64 0) (z59), selv l1 (.bool false) (z60), selv l2 (.bool false) (z61), selv l3 (.slice (some ⟨gd, 0, none⟩) 1 cd) (z62), selv l4 (.int .i64 1) (z63), selv l5 (.bool false) (z64), selv l6 (.bool false) (z65), selv l7 (.bool false) (z66), selv l8 (.slice (some ⟨gd, 0, none⟩) 1 cd) (z67), selv l9 (.pointer (some ⟨gd, 0, none⟩)) (z68), selv l10 (.pointer (some ⟨gd, 0, none⟩)) (z69), selv l11 (.agg #[.int .i64 1, .int .i64 ((q : Int) + 1)]) (z70), selv l12 (.int .i64 ((q : Int) + 1)) (z71), selv l13 (.agg #[.int .i64 1, .int .i64 ((q : Int) + 1)]) (z72), selv l14 (.bool false) (z73), selv l15 (.bool false) (z74), selv l16 (.bool false) (z75), selv l17 (.slice (some ⟨gd, 0, none⟩) 1 cd) (z76), selv l18 (.pointer (some ⟨gd, 0, none⟩)) (z77), selv l19 (.pointer (some ⟨gd, 5, none⟩)) (z78), selv l20 (.int .i32 0) (z79), selv l21 (.bool false) (z80), selv l22 (.bool false) (z81), z82, z83, z84, z85, z86, z87, z88, z89, z90, z91, z92, z93, z94, z95, z96, z97, z98, z99, z100, z101, z102, z103], defers := [] } ∧ za0 (De3 w w.heap.size n q s (.slice (some ⟨gd, 0, none⟩) 1 cd) x1 x2 V)
set_option maxHeartbeats 4000000 in
set_option maxRecDepth 100000 in
theorem UndoDepth.walk (a0 : Int) (w0 : (Lit.int .i64 a0).wf = true) (w : World) : Calls Tryz.prog 4 #[.int .i64 a0] w fun e w' => e = .returned (.bool true) ∧ Below w.heap.size w w' := by
 have HKN := za0.mk known42_call
 have hu := Tryz.underlying42
 have hu2 := Tryz.underlying39
 have hu3 := Tryz.underlying28
 have hu4 := Tryz.underlying37
 go_enter Tryz.func4, Tryz.ntmps4
 by_cases h0 : a0 < 98
 ·
  go_wp2_with fail
  refine (HKN.out _).mono ?_
  rintro e V ⟨rfl, hb⟩
  go_wp2
  go_ret
  exact ⟨rfl, hb⟩
 by_cases h1 : a0 > 104
 ·
  go_wp2_with fail
  refine (HKN.out _).mono ?_
  rintro e V ⟨rfl, hb⟩
  go_wp2
  go_ret
  exact ⟨rfl, hb⟩
 obtain ⟨n, rfl⟩ : ∃ n : Nat, a0 = (n : Int) := ⟨a0.toNat, by omega⟩
 have HN : za0 (98 ≤ n ∧ n ≤ 104) := ⟨by omega⟩
 go_upto_region 4 with (fail)
 have HF0 : za0 (DeF w w.heap.size n 0 (.slice none 0 0) (.slice none 0 0) (w.alloc (stkC #[.slice none 0 0, .slice none 0 0]))) := ⟨⟨za2 (Below.refl _ w) _, zaj _ _, Kd.Q_nil _ _ _ _ _, Kd.R_nil _ _ _ _ _⟩⟩
 clear h0 h1 w0
 generalize w.alloc (stkC #[.slice none 0 0, .slice none 0 0]) = X0 at *
 go_wp2
 go_loopw [4, 5] (fun s i wr => ∃ (k : Nat) (vu : Value), i = .int .i64 ((k : Int) + 1) ∧ k ≤ n ∧ za0 (DeF w w.heap.size n k s vu wr)) (fun _ i _ => n + 1 - (intOf i).toNat)
 case atStart => exact ⟨0, _, rfl, Nat.zero_le _, HF0⟩
 case round =>
  clear HF0
  obtain ⟨k, vu, rfl, hk, HF⟩ := hrel
  have hnb := HN.out
  by_cases hlt : k < n
  ·
   have hle : (k : Int) + 1 ≤ (n : Int) := by omega
   have hkn : k < n ∧ n ≤ 104 := ⟨hlt, HN.out.2⟩
   go_wp2_with fail
   refine (redpencillaw42_dot.calls 1 ((k : Int) + 1) 1 ((k : Int) + 1) _ rfl).mono ?_
   rintro e V1 ⟨rfl, hb⟩
   have HF := za0.mk (HF.out.more hb)
   have HLN : za0 ((flat k n).length ≤ 1000000) := ⟨by rw [flat_len]; omega⟩
   clear hb
   go_upto_region 9 with (first | (at_builtin; refine app_node1 w.heap.size rfl _ _ rfl u4 (flat k n) ⟨⟨1, (k : Int) + 1⟩, ⟨0, 0⟩, (k : Int) + 1, 97⟩ rfl rfl HF.out.rn HF.out.below.size HLN.out ?_; intro v2 V2 hr2 hg2) | fail)
   obtain ⟨hB2, hS2, hU2⟩ := HF.out.put hr2 hg2
   rw [show (⟨⟨1, (k : Int) + 1⟩, ⟨0, 0⟩, (k : Int) + 1, 97⟩ : Node) = flN n k by unfold flN; rw [if_pos hlt], ← flat_next] at hr2
   have HB := za0.mk hB2
   have HST := za0.mk hS2
   have HRU := za0.mk hU2
   have HRN := za0.mk hr2
   clear hB2 hS2 hU2 hr2 hg2 HF
   go_wp2_with fail
   refine (redpencillaw42_dot.calls 1 ((k : Int) + 1) 1 ((k : Int) + 1) _ rfl).mono ?_
   rintro e V3 ⟨rfl, hb⟩
   go_wp2_with fail
   have hba := za2 (Below.refl V3.heap.size V3) (.cells #[.int .i64 1, .int .i64 ((k : Int) + 1)] 39 (0, 0) : Obj)
   have HM := za0.mk (RD.C (lit_row k39 39 V3 0 (Nat.zero_le _) [⟨1, (k : Int) + 1⟩] 1 rfl #[.int .i64 1, .int .i64 ((k : Int) + 1)] rfl (by decide) (fun _ _ => Reps.c2 (k39_mkM _ _ _ ⟨1, (k : Int) + 1⟩) (Reps.none _ _)))).2.2
   have hb2 := za8 hb hba
   have HB := za0.mk (za8 HB.out hb2)
   have HST := za0.mk (zab HST.out hb2)
   have HRU := za0.mk (Kd.Q_below HRU.out hb2)
   have HRN := za0.mk (RN.below' HRN.out hb2)
   clear hb hba hb2
   generalize V3.alloc (.cells #[.int .i64 1, .int .i64 ((k : Int) + 1)] 39 (0, 0) : Obj) = V4 at *
   have HPL : za0 ((pU k).length ≤ 100000) := ⟨by rw [pU_len]; omega⟩
   refine (stackPush_call w.heap.size w.heap.size vu (.slice none 0 0) (pU k) _ _ [⟨1, (k : Int) + 1⟩] none 0 [] V4 HST.out HRU.out (Nat.le_refl _) rfl HM.out (show Kd.C k68 V4 none 0 ([] : List LostE) from ⟨rfl, by decide, fun h => absurd h (by decide)⟩) ⟨by simp, by simp⟩ HPL.out).mono ?_
   rintro e V5 (⟨hv, _, _⟩ | ⟨_, rfl, v5, hst, hru, ht⟩)
   ·
    unfold validC at hv; simp at hv
   have HF : za0 (DeF w w.heap.size n (k + 1) v2 v5 V5) := ⟨by
    have hne : ∀ {q : Nat}, v2.ownBlock = some q → ¬ (q = w.heap.size ∨ vu.ownBlock = some q) := fun hq e => by
     obtain ⟨_, cur, hc⟩ := RN.block HRN.out hq
     rcases e with e | e
     ·
      rw [e, HST.out] at hc; exact absurd (Obj.cells.inj (Option.some.inj hc)).2.1 (by decide)
     ·
      obtain ⟨cells, hc2⟩ := Q_typed HRU.out e
      rw [hc] at hc2; exact absurd (Obj.cells.inj (Option.some.inj hc2)).2.1 (by decide)
    refine ⟨ht.on HB.out fun i hi => ?_, hst, ?_, RN.keep HRN.out fun q hq => ht.block q (RN.lt HRN.out hq) (hne hq)⟩
    ·
     rcases hi with hi | hi
     ·
      omega
     ·
      exact Kd.Q_base HRU.out i hi
    ·
     rw [← pU_push]; exact hru⟩
   clear hst hru ht HB HST HRU HRN HM
   go_wp2
   go_roundw
   case rel => exact ⟨k + 1, v5, by go_num, by omega, HF⟩
   case measure => simp [intOf]; omega
  obtain rfl : k = n := by omega
  have hgt : ¬ (k : Int) + 1 ≤ (k : Int) := by omega
  obtain ⟨Au, cu, rfl, _⟩ := Kd.Q_slice HF.out.ru
  have HPL := za0.mk (pU_len k)
  have HST := za0.mk HF.out.st
  rw [HPL.out] at HST HF
  go_wp2_with fail
  refine (stackUndos_call w.heap.size Au none (k - (k - 100)) 0 cu 0 wr HST.out).mono ?_
  rintro e wr1 ⟨rfl, rfl⟩
  have hmin : min (k : Int) 100 = ((k - (k - 100) : Nat) : Int) := by omega
  have hq : (((k - (k - 100) : Nat) : Int) != ((k - (k - 100) : Nat) : Int)) = false := by simp
  have HG0 : za0 (De2 w w.heap.size k k u4 (.slice Au (k - (k - 100)) cu) (.slice none 0 0) wr1) := ⟨⟨HF.out.below, HST.out, HF.out.ru, by unfold toL; rw [Nat.sub_self]; exact Kd.Q_nil _ _ _ _ _, HF.out.rn⟩⟩
  clear HF HST HPL
  generalize hkk : k - (k - 100) = kk at *
  go_wp2
  clear hmin hq
  go_loopw [4, 6] (fun s i wr => ∃ (j : Nat) (vu vr : Value), i = .int .i64 (j : Int) ∧ k - 100 ≤ j ∧ j ≤ k ∧ za0 (De2 w w.heap.size k j s vu vr wr)) (fun _ i _ => (intOf i).toNat)
  case atStart => exact ⟨k, _, _, rfl, Nat.sub_le _ _, Nat.le_refl _, HG0⟩
  case round =>
   clear HG0
   obtain ⟨j, vu, vr, rfl, hj, hjk, HF⟩ := hrel
   have hmax : max (0 : Int) ((k : Int) - 100) = ((k - 100 : Nat) : Int) := by omega
   by_cases hlt : k - 100 < j
   ·
    obtain ⟨q, rfl⟩ : ∃ q, j = q + 1 := ⟨j - 1, by omega⟩
    have hgt2 : ((q + 1 : Nat) : Int) > ((k - 100 : Nat) : Int) := by omega
    obtain ⟨As, cs, rfl⟩ := RN.slice HF.out.rn
    have HUD := za0.mk (flat_undo (n := k) (j := q) (by omega) (by omega) (by omega))
    have HFT := za0.mk (fits_flat (n := k) (i := q + 1) hnb.2 hjk)
    have HFB := za0.mk (flat_both (n := k) (i := q) (by omega) (by omega))
    have HQK : za0 (q < k) := ⟨by omega⟩
    rw [flat_len] at HF ⊢
    go_wp2_with fail
    clear hgt2 hmax
    refine (redpencillaw42_dot.calls 2 1 2 1 _ rfl).mono ?_
    rintro e V1 ⟨rfl, hb⟩
    have HF := za0.mk (HF.out.more hb)
    clear hb
    go_wp2_with fail
    have hcall := stackUndo_call w.heap.size w.heap.size vu vr (fromL k (q + 1)) (toL k (q + 1)) As cs (flat k (q + 1)) ⟨2, 1⟩ V1 HF.out.st HF.out.ru HF.out.rr (Nat.le_refl _) (by rw [flat_len]; exact (RN.C HF.out.rn).2.2) (by rw [flat_len]; exact (RN.C HF.out.rn).2.1) HFT.out
    rw [flat_len] at hcall
    refine hcall.mono ?_
    rintro e V2 ⟨vd, rfl, hrn, x1, x2, hst, h1, h2, hg, _⟩
    rw [HUD.out] at hrn h1 h2 ⊢
    change RN _ _ _ [deadN (flN (q + 1) q)] at hrn
    have HF : za0 (De3 w w.heap.size k q (.slice As k cs) vd x1 x2 V2) := ⟨⟨HF.out.below.grown hg HF.out.below.size (fun i e => by rw [← Option.some.inj e]; exact Nat.le_refl _), hst, h1, h2, R_stk HF.out.rn (by decide) HF.out.st hg, Kd.R_lower hrn HF.out.below.size⟩⟩
    clear hcall hrn hst h1 h2 hg HUD HFT
    obtain ⟨Ad, cd, rfl⟩ := RN.slice HF.out.rd
    obtain ⟨gd, rfl⟩ := own_form HF.out.rd (by simp)
    rw [show [deadN (flN (q + 1) q)].length = 1 from rfl] at HF ⊢
    have HCJ : za0 (((q + 1 : Nat) : Int) = (q : Int) + 1) := ⟨by omega⟩
    try rw [HCJ.out]
    go_upto_region 17 with (fail)
    refine AnyOrder.wp_region (by kernel_rfl) (depthInv w k q gd cd (.slice As k cs) x1 x2 _ _ _ _ _ _ _ _ _ _ _ _ _ _ _ _ _ _ _ _ _ _ _ _ _ _ _ _ _ _ _ _ _ _ _ _ _ _ _ _ _ _ _ _ _ _ _ _ _ _ _ _ _ _ _ _ _ _ _ _ _ _ _ _ _ _ _ _ _ _ _ _ _ _ _ _ _ _ _ _ _ _ _ _ _ _ _ _ _ _ _ _ _ _ _ _ _ _ _ _ _) ⟨false, false, false, false, false, false, false, false, false, false, false, false, false, false, false, false, false, false, false, false, false, false, false, rfl, rfl, ⟨HF.out.more (za3 (Below.refl _ _))⟩⟩ ?step ?last
    case step =>
     rintro L ac V i ⟨l0, l1, l2, l3, l4, l5, l6, l7, l8, l9, l10, l11, l12, l13, l14, l15, l16, l17, l18, l19, l20, l21, l22, rfl, rfl, HF⟩ hi K hK
     have h1 : i = 0 ∨ i = 1 ∨ i = 2 ∨ i = 3 ∨ i = 4 ∨ i = 5 ∨ i = 6 ∨ i = 7 ∨ i = 8 ∨ i = 9 ∨ i = 10 ∨ i = 11 ∨ i = 12 ∨ i = 13 ∨ i = 14 ∨ i = 15 ∨ i = 16 ∨ i = 17 ∨ i = 18 ∨ i = 19 ∨ i = 20 ∨ i = 21 ∨ i = 22 := by
      have h1 := (AnyOrder.mem_ready hi).1
      clear hi hK
      change i < 23 at h1
      omega
     rcases h1 with rfl | rfl | rfl | rfl | rfl | rfl | rfl | rfl | rfl | rfl | rfl | rfl | rfl | rfl | rfl | rfl | rfl | rfl | rfl | rfl | rfl | rfl | rfl
     ·
      obtain rfl : l0 = false := (AnyOrder.mem_ready hi).2.1
      clear hi
      refine AnyOrder.wpOp_go rfl (by rfl) ?_
      go_wp2_with fail
      exact ⟨true, l1, l2, l3, l4, l5, l6, l7, l8, l9, l10, l11, l12, l13, l14, l15, l16, l17, l18, l19, l20, l21, l22, rfl, rfl, HF⟩
     ·
      obtain rfl : l1 = false := (AnyOrder.mem_ready hi).2.1
      obtain rfl : l0 = true := AnyOrder.dep (q := 0) hi rfl rfl rfl
      clear hi
      simp only [sel_true, selv_true] at hK ⊢
      refine AnyOrder.wpOp_go rfl (by rfl) ?_
      go_wp2_with fail
      exact ⟨true, true, l2, l3, l4, l5, l6, l7, l8, l9, l10, l11, l12, l13, l14, l15, l16, l17, l18, l19, l20, l21, l22, rfl, rfl, HF⟩
     ·
      obtain rfl : l2 = false := (AnyOrder.mem_ready hi).2.1
      obtain rfl : l1 = true := AnyOrder.dep (q := 0) hi rfl rfl rfl
      clear hi
      simp only [sel_true, selv_true] at hK ⊢
      refine AnyOrder.wpOp_go rfl (by rfl) ?_
      go_wp2_with fail
      exact ⟨l0, true, true, l3, l4, l5, l6, l7, l8, l9, l10, l11, l12, l13, l14, l15, l16, l17, l18, l19, l20, l21, l22, rfl, rfl, HF⟩
     ·
      obtain rfl : l3 = false := (AnyOrder.mem_ready hi).2.1
      obtain rfl : l2 = true := AnyOrder.dep (q := 0) hi rfl rfl rfl
      clear hi
      simp only [sel_true, selv_true] at hK ⊢
      refine AnyOrder.wpOp_go rfl (by rfl) ?_
      go_wp2_with fail
      exact ⟨l0, l1, true, true, l4, l5, l6, l7, l8, l9, l10, l11, l12, l13, l14, l15, l16, l17, l18, l19, l20, l21, l22, rfl, rfl, HF⟩
     ·
      obtain rfl : l4 = false := (AnyOrder.mem_ready hi).2.1
      obtain rfl : l3 = true := AnyOrder.dep (q := 0) hi rfl rfl rfl
      obtain rfl : l2 = true := AnyOrder.dep (q := 1) hi rfl rfl rfl
      clear hi
      simp only [sel_true, selv_true] at hK ⊢
      refine AnyOrder.wpOp_go rfl (by rfl) ?_
      go_wp2_with fail
      exact ⟨l0, l1, true, true, true, l5, l6, l7, l8, l9, l10, l11, l12, l13, l14, l15, l16, l17, l18, l19, l20, l21, l22, rfl, rfl, HF⟩
     ·
      obtain rfl : l5 = false := (AnyOrder.mem_ready hi).2.1
      obtain rfl : l4 = true := AnyOrder.dep (q := 0) hi rfl rfl rfl
      obtain rfl : l2 = true := AnyOrder.dep (q := 1) hi rfl rfl rfl
      clear hi
      simp only [sel_true, selv_true] at hK ⊢
      refine AnyOrder.wpOp_go rfl (by rfl) ?_
      go_wp2_with fail
      exact ⟨l0, l1, true, l3, true, true, l6, l7, l8, l9, l10, l11, l12, l13, l14, l15, l16, l17, l18, l19, l20, l21, l22, rfl, rfl, HF⟩
     ·
      obtain rfl : l6 = false := (AnyOrder.mem_ready hi).2.1
      obtain rfl : l2 = true := AnyOrder.dep (q := 0) hi rfl rfl rfl
      obtain rfl : l5 = true := AnyOrder.dep (q := 1) hi rfl rfl rfl
      clear hi
      simp only [sel_true, selv_true] at hK ⊢
      refine AnyOrder.wpOp_go rfl (by rfl) ?_
      go_wp2_with fail
      exact ⟨l0, l1, true, l3, l4, true, true, l7, l8, l9, l10, l11, l12, l13, l14, l15, l16, l17, l18, l19, l20, l21, l22, rfl, rfl, HF⟩
     ·
      obtain rfl : l7 = false := (AnyOrder.mem_ready hi).2.1
      obtain rfl : l6 = true := AnyOrder.dep (q := 0) hi rfl rfl rfl
      obtain rfl : l2 = true := AnyOrder.dep (q := 1) hi rfl rfl rfl
      clear hi
      simp only [sel_true, selv_true] at hK ⊢
      refine AnyOrder.wpOp_go rfl (by rfl) ?_
      go_wp2_with fail
      exact ⟨l0, l1, true, l3, l4, l5, true, true, l8, l9, l10, l11, l12, l13, l14, l15, l16, l17, l18, l19, l20, l21, l22, rfl, rfl, HF⟩
     ·
      obtain rfl : l8 = false := (AnyOrder.mem_ready hi).2.1
      obtain rfl : l7 = true := AnyOrder.dep (q := 0) hi rfl rfl rfl
      clear hi
      simp only [sel_true, selv_true] at hK ⊢
      refine AnyOrder.wpOp_go rfl (by rfl) ?_
      go_wp2_with fail
      exact ⟨l0, l1, l2, l3, l4, l5, l6, true, true, l9, l10, l11, l12, l13, l14, l15, l16, l17, l18, l19, l20, l21, l22, rfl, rfl, HF⟩
     ·
      obtain rfl : l9 = false := (AnyOrder.mem_ready hi).2.1
      obtain rfl : l8 = true := AnyOrder.dep (q := 0) hi rfl rfl rfl
      obtain rfl : l7 = true := AnyOrder.dep (q := 1) hi rfl rfl rfl
      clear hi
      simp only [sel_true, selv_true] at hK ⊢
      refine AnyOrder.wpOp_go rfl (by rfl) ?_
      go_wp2_with fail
      exact ⟨l0, l1, l2, l3, l4, l5, l6, true, true, true, l10, l11, l12, l13, l14, l15, l16, l17, l18, l19, l20, l21, l22, rfl, rfl, HF⟩
     ·
      obtain rfl : l10 = false := (AnyOrder.mem_ready hi).2.1
      obtain rfl : l9 = true := AnyOrder.dep (q := 0) hi rfl rfl rfl
      obtain rfl : l7 = true := AnyOrder.dep (q := 1) hi rfl rfl rfl
      clear hi
      simp only [sel_true, selv_true] at hK ⊢
      refine AnyOrder.wpOp_go rfl (by rfl) ?_
      go_wp2_with fail
      exact ⟨l0, l1, l2, l3, l4, l5, l6, true, l8, true, true, l11, l12, l13, l14, l15, l16, l17, l18, l19, l20, l21, l22, rfl, rfl, HF⟩
     ·
      obtain rfl : l11 = false := (AnyOrder.mem_ready hi).2.1
      obtain rfl : l10 = true := AnyOrder.dep (q := 0) hi rfl rfl rfl
      obtain rfl : l7 = true := AnyOrder.dep (q := 1) hi rfl rfl rfl
      clear hi
      simp only [sel_true, selv_true] at hK ⊢
      obtain ⟨q0, q1, q2, q3, q4, q5⟩ := row_six HF.out.rd (k := 0) rfl
      change _ = some (Value.int .i64 1) at q0
      change _ = some (Value.int .i64 ((q : Int) + 1)) at q1
      change _ = some (Value.int .i32 0) at q5
      simp only [Nat.zero_mul, Nat.zero_add] at q0 q1 q5
      clear q2 q3 q4
      refine AnyOrder.wpOp_go rfl (by rfl) ?_
      go_wp2_with fail
      exact ⟨l0, l1, l2, l3, l4, l5, l6, true, l8, l9, true, true, l12, l13, l14, l15, l16, l17, l18, l19, l20, l21, l22, rfl, rfl, HF⟩
     ·
      obtain rfl : l12 = false := (AnyOrder.mem_ready hi).2.1
      obtain rfl : l7 = true := AnyOrder.dep (q := 0) hi rfl rfl rfl
      clear hi
      simp only [sel_true, selv_true] at hK ⊢
      refine AnyOrder.wpOp_go rfl (by rfl) ?_
      go_wp2_with fail
      exact ⟨l0, l1, l2, l3, l4, l5, l6, true, l8, l9, l10, l11, true, l13, l14, l15, l16, l17, l18, l19, l20, l21, l22, rfl, rfl, HF⟩
     ·
      obtain rfl : l13 = false := (AnyOrder.mem_ready hi).2.1
      obtain rfl : l12 = true := AnyOrder.dep (q := 0) hi rfl rfl rfl
      obtain rfl : l7 = true := AnyOrder.dep (q := 1) hi rfl rfl rfl
      clear hi
      simp only [sel_true, selv_true] at hK ⊢
      refine AnyOrder.wpOp_go rfl (by rfl) ?_
      go_wp2_with fail
      refine (redpencillaw42_dot.calls 1 ((q : Int) + 1) 1 ((q : Int) + 1) V rfl).mono ?_
      rintro e V' ⟨rfl, hb⟩
      exact hK _ _ ⟨l0, l1, l2, l3, l4, l5, l6, true, l8, l9, l10, l11, true, true, l14, l15, l16, l17, l18, l19, l20, l21, l22, rfl, rfl, ⟨HF.out.more hb⟩⟩
     ·
      obtain rfl : l14 = false := (AnyOrder.mem_ready hi).2.1
      obtain rfl : l11 = true := AnyOrder.dep (q := 0) hi rfl rfl rfl
      obtain rfl : l13 = true := AnyOrder.dep (q := 1) hi rfl rfl rfl
      obtain rfl : l7 = true := AnyOrder.dep (q := 2) hi rfl rfl rfl
      clear hi
      simp only [sel_true, selv_true] at hK ⊢
      refine AnyOrder.wpOp_go rfl (by rfl) ?_
      go_wp2_with fail
      exact ⟨l0, l1, l2, l3, l4, l5, l6, true, l8, l9, l10, true, l12, true, true, l15, l16, l17, l18, l19, l20, l21, l22, rfl, rfl, HF⟩
     ·
      obtain rfl : l15 = false := (AnyOrder.mem_ready hi).2.1
      obtain rfl : l7 = true := AnyOrder.dep (q := 0) hi rfl rfl rfl
      obtain rfl : l14 = true := AnyOrder.dep (q := 1) hi rfl rfl rfl
      clear hi
      simp only [sel_true, selv_true] at hK ⊢
      refine AnyOrder.wpOp_go rfl (by rfl) ?_
      go_wp2_with fail
      exact ⟨l0, l1, l2, l3, l4, l5, l6, true, l8, l9, l10, l11, l12, l13, true, true, l16, l17, l18, l19, l20, l21, l22, rfl, rfl, HF⟩
     ·
      obtain rfl : l16 = false := (AnyOrder.mem_ready hi).2.1
      obtain rfl : l15 = true := AnyOrder.dep (q := 0) hi rfl rfl rfl
      obtain rfl : l13 = true := AnyOrder.dep (q := 1) hi rfl rfl rfl
      clear hi
      simp only [sel_true, selv_true] at hK ⊢
      refine AnyOrder.wpOp_go rfl (by rfl) ?_
      go_wp2_with fail
      exact ⟨l0, l1, l2, l3, l4, l5, l6, l7, l8, l9, l10, l11, l12, true, l14, true, true, l17, l18, l19, l20, l21, l22, rfl, rfl, HF⟩
     ·
      obtain rfl : l17 = false := (AnyOrder.mem_ready hi).2.1
      obtain rfl : l16 = true := AnyOrder.dep (q := 0) hi rfl rfl rfl
      clear hi
      simp only [sel_true, selv_true] at hK ⊢
      refine AnyOrder.wpOp_go rfl (by rfl) ?_
      go_wp2_with fail
      exact ⟨l0, l1, l2, l3, l4, l5, l6, l7, l8, l9, l10, l11, l12, l13, l14, l15, true, true, l18, l19, l20, l21, l22, rfl, rfl, HF⟩
     ·
      obtain rfl : l18 = false := (AnyOrder.mem_ready hi).2.1
      obtain rfl : l17 = true := AnyOrder.dep (q := 0) hi rfl rfl rfl
      obtain rfl : l16 = true := AnyOrder.dep (q := 1) hi rfl rfl rfl
      clear hi
      simp only [sel_true, selv_true] at hK ⊢
      refine AnyOrder.wpOp_go rfl (by rfl) ?_
      go_wp2_with fail
      exact ⟨l0, l1, l2, l3, l4, l5, l6, l7, l8, l9, l10, l11, l12, l13, l14, l15, true, true, true, l19, l20, l21, l22, rfl, rfl, HF⟩
     ·
      obtain rfl : l19 = false := (AnyOrder.mem_ready hi).2.1
      obtain rfl : l18 = true := AnyOrder.dep (q := 0) hi rfl rfl rfl
      obtain rfl : l16 = true := AnyOrder.dep (q := 1) hi rfl rfl rfl
      clear hi
      simp only [sel_true, selv_true] at hK ⊢
      refine AnyOrder.wpOp_go rfl (by rfl) ?_
      go_wp2_with fail
      exact ⟨l0, l1, l2, l3, l4, l5, l6, l7, l8, l9, l10, l11, l12, l13, l14, l15, true, l17, true, true, l20, l21, l22, rfl, rfl, HF⟩
     ·
      obtain rfl : l20 = false := (AnyOrder.mem_ready hi).2.1
      obtain rfl : l19 = true := AnyOrder.dep (q := 0) hi rfl rfl rfl
      obtain rfl : l16 = true := AnyOrder.dep (q := 1) hi rfl rfl rfl
      clear hi
      simp only [sel_true, selv_true] at hK ⊢
      obtain ⟨q0, q1, q2, q3, q4, q5⟩ := row_six HF.out.rd (k := 0) rfl
      change _ = some (Value.int .i64 1) at q0
      change _ = some (Value.int .i64 ((q : Int) + 1)) at q1
      change _ = some (Value.int .i32 0) at q5
      simp only [Nat.zero_mul, Nat.zero_add] at q0 q1 q5
      clear q2 q3 q4
      refine AnyOrder.wpOp_go rfl (by rfl) ?_
      go_wp2_with fail
      exact ⟨l0, l1, l2, l3, l4, l5, l6, l7, l8, l9, l10, l11, l12, l13, l14, l15, true, l17, l18, true, true, l21, l22, rfl, rfl, HF⟩
     ·
      obtain rfl : l21 = false := (AnyOrder.mem_ready hi).2.1
      obtain rfl : l20 = true := AnyOrder.dep (q := 0) hi rfl rfl rfl
      obtain rfl : l16 = true := AnyOrder.dep (q := 1) hi rfl rfl rfl
      clear hi
      simp only [sel_true, selv_true] at hK ⊢
      refine AnyOrder.wpOp_go rfl (by rfl) ?_
      go_wp2_with fail
      exact ⟨l0, l1, l2, l3, l4, l5, l6, l7, l8, l9, l10, l11, l12, l13, l14, l15, true, l17, l18, l19, true, true, l22, rfl, rfl, HF⟩
     ·
      obtain rfl : l22 = false := (AnyOrder.mem_ready hi).2.1
      obtain rfl : l16 = true := AnyOrder.dep (q := 0) hi rfl rfl rfl
      obtain rfl : l21 = true := AnyOrder.dep (q := 1) hi rfl rfl rfl
      clear hi
      simp only [sel_true, selv_true] at hK ⊢
      refine AnyOrder.wpOp_go rfl (by rfl) ?_
      go_wp2_with fail
      exact ⟨l0, l1, l2, l3, l4, l5, l6, l7, l8, l9, l10, l11, l12, l13, l14, l15, true, l17, l18, l19, l20, true, true, rfl, rfl, HF⟩
    case last =>
     rintro L ac V ⟨l0, l1, l2, l3, l4, l5, l6, l7, l8, l9, l10, l11, l12, l13, l14, l15, l16, l17, l18, l19, l20, l21, l22, rfl, rfl, HF⟩ hr
     have hall := AnyOrder.all_listed rfl (by kernel_rfl) hr
     clear hr
     obtain rfl : l0 = true := hall 0 (by decide)
     obtain rfl : l1 = true := hall 1 (by decide)
     obtain rfl : l2 = true := hall 2 (by decide)
     obtain rfl : l3 = true := hall 3 (by decide)
     obtain rfl : l4 = true := hall 4 (by decide)
     obtain rfl : l5 = true := hall 5 (by decide)
     obtain rfl : l6 = true := hall 6 (by decide)
     obtain rfl : l7 = true := hall 7 (by decide)
     obtain rfl : l8 = true := hall 8 (by decide)
     obtain rfl : l9 = true := hall 9 (by decide)
     obtain rfl : l10 = true := hall 10 (by decide)
     obtain rfl : l11 = true := hall 11 (by decide)
     obtain rfl : l12 = true := hall 12 (by decide)
     obtain rfl : l13 = true := hall 13 (by decide)
     obtain rfl : l14 = true := hall 14 (by decide)
     obtain rfl : l15 = true := hall 15 (by decide)
     obtain rfl : l16 = true := hall 16 (by decide)
     obtain rfl : l17 = true := hall 17 (by decide)
     obtain rfl : l18 = true := hall 18 (by decide)
     obtain rfl : l19 = true := hall 19 (by decide)
     obtain rfl : l20 = true := hall 20 (by decide)
     obtain rfl : l21 = true := hall 21 (by decide)
     obtain rfl : l22 = true := hall 22 (by decide)
     clear hall
     simp only [sel_true, selv_true]
     have HF := za0.mk HF.out
     generalize V = V4 at *
     go_wp2_with fail
     have hcall := redpencillaw42_both.calls As cs (flat k (q + 1)) (some ⟨gd, 0, none⟩) cd [deadN (flN (q + 1) q)] (flat k q) V4 (by rw [flat_len]; exact (RN.C HF.out.rn).2.2) (by rw [flat_len]; exact (RN.C HF.out.rn).2.1) (RN.C HF.out.rd).2.2 (RN.C HF.out.rd).2.1 HFB.out
     rw [flat_len, show [deadN (flN (q + 1) q)].length = 1 from rfl] at hcall
     refine hcall.mono ?_
     rintro e V5 ⟨v5, rfl, hr5, hb⟩
     have HF : za0 (De2 w w.heap.size k q v5 x1 x2 V5) := ⟨⟨za8 HF.out.below hb, zab HF.out.st hb, Kd.Q_below HF.out.ru hb, Kd.Q_below HF.out.rr hb, Kd.R_lower hr5 HF.out.below.size⟩⟩
     clear hcall hr5 hb
     have hkn : q < k ∧ k ≤ 104 := ⟨HQK.out, hnb.2⟩
     go_wp2
     go_roundw
     case rel => exact ⟨q, x1, x2, by go_num, by omega, by omega, HF⟩
     case measure => simp [intOf]
   obtain rfl : j = k - 100 := by omega
   have hng : ¬ ((k - 100 : Nat) : Int) > ((k - 100 : Nat) : Int) := by omega
   obtain ⟨As, cs, rfl⟩ := RN.slice HF.out.rn
   rw [flat_len] at HF ⊢
   have hfr : fromL k (k - 100) = [] := by unfold fromL; rw [List.drop_of_length_le (by simp)]
   have HFT := za0.mk (fits_flat (n := k) (i := k - 100) hnb.2 (Nat.sub_le _ _))
   have HRU := HF.out.ru
   rw [hfr] at HRU HFT
   have HRU := za0.mk HRU
   obtain ⟨Ar, cr, rfl, _⟩ := Kd.Q_slice HF.out.rr
   rw [toL_len] at HF
   clear hfr
   go_wp2_with fail
   clear hng hmax
   refine (redpencillaw42_dot.calls 2 1 2 1 _ rfl).mono ?_
   rintro e V1 ⟨rfl, hb⟩
   have HF := za0.mk (HF.out.more hb)
   have HRU := za0.mk (Kd.Q_below HRU.out hb)
   clear hb
   go_wp2_with fail
   have hcall := stackUndo_call w.heap.size w.heap.size vu (.slice Ar (k - (k - 100)) cr) [] (toL k (k - 100)) As cs (flat k (k - 100)) ⟨2, 1⟩ V1 HF.out.st HRU.out HF.out.rr (Nat.le_refl _) (by rw [flat_len]; exact (RN.C HF.out.rn).2.2) (by rw [flat_len]; exact (RN.C HF.out.rn).2.1) HFT.out
   rw [flat_len] at hcall
   refine hcall.mono ?_
   rintro e V2 ⟨vd, rfl, hrn, x1, x2, hst, h1, h2, hg, h6⟩
   rw [flat_undo0 (by omega)] at h6 ⊢
   obtain ⟨rfl, rfl⟩ := h6 (show (9 : Int) ≠ 0 by decide)
   have HB := za0.mk (HF.out.below.grown hg HF.out.below.size (fun i e => by rw [← Option.some.inj e]; exact Nat.le_refl _))
   obtain ⟨A1, c1, n1, rfl⟩ : ∃ A c m, x1 = .slice A m c := by obtain ⟨A, c, e, _⟩ := Kd.Q_slice h1; exact ⟨A, c, _, e⟩
   have HST : za0 (V2.heap[w.heap.size]? = some (stkC #[.slice A1 n1 c1, .slice Ar (k - (k - 100)) cr])) := ⟨hst⟩
   clear hcall hrn hst h1 h2 hg HF HRU HFT
   go_wp2_with fail
   refine (stackRedos_call w.heap.size A1 Ar n1 (k - (k - 100)) c1 cr V2 HST.out).mono ?_
   rintro e V3 ⟨rfl, rfl⟩
   have hmin : min (k : Int) 100 = ((k - (k - 100) : Nat) : Int) := by omega
   have hq : (((k - (k - 100) : Nat) : Int) == ((k - (k - 100) : Nat) : Int)) = true := by simp
   go_wp2_with fail
   refine (HKN.out _).mono ?_
   rintro e V4 ⟨rfl, hb⟩
   go_wp2
   go_ret
   exact ⟨rfl, za8 HB.out hb⟩
end
end
end Go.Proofs.YtefejajofmpjdaaGreat.PWalk
end
section
namespace Go.Proofs.YtefejajofmpjdaaGreat.undoDepth
open Go.ChangeShapes Go.WideShapes Go.ChangeAt Go.RowKit
open Go.ChangeMaps (open_string shut_string)
open Go.Proofs.YtefejajofmpjdaaGreatW.PrintWords
set_option linter.unusedVariables false
section
theorem own : ownKnob Tryz.prog.godebug = none := by kernel_rfl
set_option maxRecDepth 100000 in
set_option maxHeartbeats 2000000 in
theorem lifted (os : Os) (started : os.Started) (H : Type) (enc : TypeId × Value → H) :
  ReturnsInHanded {} Tryz.checked os 4 .any (Rows.undoDepthSpec.pre6 enc Tryz.prog Tryz.f4 Rows.undoDepthRow.domain false) (Rows.undoDepthSpec.post enc Tryz.prog Tryz.f4 false true false false) := by
 refine returnsInHanded_of_change_sized (C := Tryz.checked) own started (by kernel_rfl) Tryz.func4
  (ChangeSpec.witness6 (enc := enc) (C := Tryz.checked) false ⟨#[], #[.int .i64 0], []⟩ 8 (by kernel_rfl) (by kernel_rfl) (by kernel_rfl) (by kernel_rfl)) ?_
 intro W base args ds gs before hval0 hW hcnd hsz0 _
 have hval : ∀ (j : Nat) t v, Tryz.f4.params[j]? = some t → args[j]? = some v → Value.okWide Tryz.prog W .any base t v := hval0
 have hW' := hW
 obtain ⟨p, q, hA0, hV, rfl, hfz, hnd⟩ := hW
 have hA : DataW.TrodAll enc Tryz.prog W 0 (fun _ => true) true Tryz.f4.params.toList args.toList ds p := hA0
 rw [Tryz.params4] at hA hval
 obtain ⟨v0, vs0, d0, ds0, p0, q0, hargs, rfl, rfl, h0, r0⟩ := trodAll_cons hA
 obtain ⟨rfl, rfl, rfl⟩ := trodAll_nil r0
 obtain rfl : args = #[v0] := by cases args; simp_all
 obtain ⟨rfl, rfl⟩ := trodVars_none hV
 obtain ⟨a0, rfl, rfl, rfl, w0⟩ := open_int Tryz.underlying3 (hval 0 3 v0 rfl rfl) h0
 clear hA0 hval0 hsz0
 refine (PWalk.UndoDepth.walk a0 w0 W).mono fun e W' ⟨he, bel⟩ => ?_
 subst he
 exact ⟨_, rfl, _, _, _, [], _, [], hW', trodAll_mk1 (shut_bool Tryz.underlying4 _), (trodAll_cons_mk (shut_int Tryz.underlying3 w0) trodAll_mk0), rfl, bel.frame _, fun h => by cases h⟩
theorem over : Rows.undoDepthRow.holds Tryz.pinned (OpenSpec.ofChange Rows.undoDepthSpec) :=
 OpenClaim.holds_of_wide 4 Tryz.f4 rfl rfl rfl rfl rfl rfl rfl ⟨rfl, rfl, rfl, rfl, rfl⟩ rfl rfl rfl rfl rfl (by kernel_rfl) Tryz.func4 (by kernel_rfl)
  (of_decide_eq_true (by kernel_rfl)) (by unfold Func.isWrapper; first | (rw [if_pos (by decide +kernel)]; kernel_rfl) | (rw [if_neg (by decide +kernel)]; exact ⟨rfl, rfl⟩))
  (fun os started H enc _ => lifted os started H enc)
theorem proved : Rows.UndoDepthSaid := over
#print axioms proved
end
end Go.Proofs.YtefejajofmpjdaaGreat.undoDepth
end
