/-
  The law EditLongs returns true for every number and every rune, and leaves its input as it was: as many runes as may be inserted and deleted at once, and one more. Part 8 of 12.
-/
import Derived.Test.YtmbndijbpgobeaaGreatLG
section
namespace Go.Proofs.YtmbndijbpgobeaaGreat.PWalk
open Go.RowKit Go.Proofs.YtmbndijbpgobeaaGreatW.PrintWords Go.Proofs.YtmbndijbpgobeaaGreatW.PrintLast Go.Proofs.YtmbndijbpgobeaaGreatW.PrintMore
set_option linter.unusedVariables false
set_option linter.unusedSimpArgs false
open Go.Shelf
attribute [local go_sem] Oper.semAt_some
def idxD (p : Dot → Bool) (l : List Dot) : Int := match l.findIdx? p with | some i => (i : Int) | none => -1
theorem idxD_at {p : Dot → Bool} {l : List Dot} {k : Nat} {x : Dot} (hk : l[k]? = some x) (hx : p x = true) (hno : ∀ j y, j < k → l[j]? = some y → p y = false) : idxD p l = k := by
 unfold idxD
 rw [List.findIdx?_eq_some_iff_getElem.2 ⟨(List.getElem?_eq_some_iff.1 hk).1, by rw [(List.getElem?_eq_some_iff.1 hk).2]; exact hx, fun j hj => by rw [hno j _ hj (List.getElem?_eq_getElem _)]; simp⟩]
theorem idxD_none {p : Dot → Bool} {l : List Dot} (hno : ∀ j y, j < l.length → l[j]? = some y → p y = false) : idxD p l = -1 := by
 unfold idxD
 rw [List.findIdx?_eq_none_iff.2 fun x hx => by
  obtain ⟨j, hj⟩ := List.getElem?_of_mem hx
  exact hno j x (List.getElem?_eq_some_iff.1 hj).1 hj]
theorem noD_step {p : Dot → Bool} {l : List Dot} {k : Nat} {x : Dot} (hk : l[k]? = some x) (hx : p x = false) (hno : ∀ j y, j < k → l[j]? = some y → p y = false) : ∀ j y, j < k + 1 → l[j]? = some y → p y = false := by
 intro j y hj hy
 rcases Nat.lt_succ_iff_lt_or_eq.1 hj with h | h
 ·
  exact hno j y h hy
 ·
  subst h; rw [hk] at hy; cases hy; exact hx
set_option maxHeartbeats 400000 in
theorem IndexFuncDot.calls (p : Dot → Bool) (fn : Nat) (A0 : Option Addr) (c0 : Nat) (l0 : List Dot) (w : World) (hr0 : Kd.C k25 w A0 l0.length l0) (hc0 : l0.length ≤ c0)
  (hcall : ∀ args W, (callFunc fn args).run Tryz.prog W = .ok (.enter fn args) W)
  (hp : ∀ x W, Calls Tryz.prog fn #[vDot x] W fun e W' => e = .returned (.bool (p x)) ∧ Below W.heap.size W W') :
  Calls Tryz.prog 94 #[.slice A0 l0.length c0, .func (.func fn) #[] #[]] w fun e w' => e = .returned (.int .i64 (idxD p l0)) ∧ Below w.heap.size w w' := by
 have hm := Kd.C_max hr0
 have hu := Tryz.underlying25
 have HR := Aside0.mk hr0
 have HP := Aside0.mk hp
 have HC := Aside0.mk hc0
 clear hr0 hp hc0
 go_enter Tryz.func94, Tryz.ntmps94
 go_wp2
 go_loopw [5, 8] (fun _ i wr => ∃ k : Nat, k ≤ l0.length ∧ i = .int .i64 k ∧ Aside0 (∀ j y, j < k → l0[j]? = some y → p y = false) ∧ Aside0 (Below w.heap.size w wr)) (fun _ i _ => l0.length - (intOf i).toNat)
 case atStart => exact ⟨0, Nat.zero_le _, rfl, ⟨fun j y hj => absurd hj (Nat.not_lt_zero _)⟩, ⟨Below.refl _ _⟩⟩
 case round =>
  obtain ⟨k, hk, rfl, hno, hb⟩ := hrel
  by_cases hlt : k < l0.length
  ·
   obtain ⟨x, hx⟩ : ∃ x, Aside0 (l0[k]? = some x) := ⟨_, ⟨List.getElem?_eq_getElem hlt⟩⟩
   obtain ⟨ad, e, h0, h1⟩ := dot_at HR.out hb.out k x hx.out
   subst e
   cases hpx : p x with
   | true =>
    have HX := Aside0.mk hpx
    clear hpx
    go_wp2
    refine (HP.out x _).mono ?_
    rintro e W' ⟨rfl, hb2⟩
    rw [HX.out]
    go_wp2
    go_ret
    exact ⟨by rw [idxD_at hx.out HX.out hno.out]; rfl, below_then hb.out hb.out.size hb2⟩
   | false =>
    have HX := Aside0.mk hpx
    clear hpx
    go_wp2
    refine (HP.out x _).mono ?_
    rintro e W' ⟨rfl, hb2⟩
    rw [HX.out]
    go_wp2
    go_roundw
    case rel => exact ⟨k + 1, by omega, by go_num, ⟨noD_step hx.out HX.out hno.out⟩, ⟨below_then hb.out hb.out.size hb2⟩⟩
    case measure => simp [intOf]; omega
  ·
   go_wp2
   go_ret
   obtain rfl : k = l0.length := by omega
   exact ⟨by rw [idxD_none hno.out]; rfl, hb.out⟩
set_option maxHeartbeats 400000 in
theorem ContainsFuncDot.calls (p : Dot → Bool) (fn : Nat) (A0 : Option Addr) (c0 : Nat) (l0 : List Dot) (w : World) (hr0 : Kd.C k25 w A0 l0.length l0) (hc0 : l0.length ≤ c0)
  (hcall : ∀ args W, (callFunc fn args).run Tryz.prog W = .ok (.enter fn args) W)
  (hp : ∀ x W, Calls Tryz.prog fn #[vDot x] W fun e W' => e = .returned (.bool (p x)) ∧ Below W.heap.size W W') :
  Calls Tryz.prog 68 #[.slice A0 l0.length c0, .func (.func fn) #[] #[]] w fun e w' => e = .returned (.bool (l0.any p)) ∧ Below w.heap.size w w' := by
 have HI := Aside0.mk (IndexFuncDot.calls p fn A0 c0 l0 w hr0 hc0 hcall hp)
 clear hr0 hc0 hp hcall
 go_enter Tryz.func68, Tryz.ntmps68
 go_wp2_with fail
 refine HI.out.mono ?_
 rintro e W' ⟨rfl, hb⟩
 have hi : decide (idxD p l0 ≥ 0) = l0.any p := by
  unfold idxD
  cases h : l0.findIdx? p with
  | none => simp [List.findIdx?_eq_none_iff] at h; simp; exact h
  | some i => simp; exact ⟨_, List.getElem_mem (List.findIdx?_eq_some_iff_getElem.1 h).1, (List.findIdx?_eq_some_iff_getElem.1 h).2.1⟩
 have HI2 := Aside0.mk hi
 clear hi
 go_wp2
 go_ret
 exact ⟨by rw [← HI2.out]; rfl, hb⟩
theorem badDot_call (d : Dot) (W : World) : Calls Tryz.prog 69 #[vDot d] W fun e W' => e = .returned (.bool (!dotOk d)) ∧ Below W.heap.size W W' := by
 have HX := Aside0.mk (blk_new W (dotC d))
 have HB := Aside0.mk (Gr.alloc W (dotC d)).below
 go_enter Tryz.func69, Tryz.ntmps69
 go_wp2_with fail
 refine (dot_Valid.calls d.f0 d.f1 (dotOk d) _ (by rw [dotValid_is])).mono ?_
 rintro e V ⟨rfl, hb⟩
 have HB2 := Aside0.mk (below_more HB.out hb)
 clear hb
 go_wp2
 go_ret
 exact ⟨rfl, HB2.out⟩
def deadN (x : Node) : Node := ⟨x.f0, x.f1, x.f2, 0⟩
/-- The nodes with some dots were deleted, one after the other. -/
def killFrom (ks : List Dot) : List Node → List Dot → Option (List Node)
 | o, [] => some o
 | o, d :: ds => if hasK ks d = true then killFrom ks (o.modify (posK ks d) deadN) ds else none
def killOut : Option (List Node) → List Node × Int
 | some o => (o, 0)
 | none => ([], 9)
def store_Kill.f (l0 : List Node) (l1 : List Dot) : Option (List Node × Int) :=
 if l0.length ≤ 1000000 ∧ l1.length ≤ 1000000 then some (if storeOk l0 = true ∧ l1.all dotOk = true then killOut (killFrom (l0.map (·.f0)) l0 l1) else ([], 2)) else none
theorem modify_dots (o : List Node) (k : Nat) : (o.modify k deadN).map (·.f0) = o.map (·.f0) := by
 apply List.ext_getElem?
 intro i
 rw [List.getElem?_map, List.getElem?_map, List.getElem?_modify]
 split
 ·
  cases o[i]? <;> rfl
 ·
  cases o[i]? <;> rfl
theorem modify_set (o : List Node) (k : Nat) (x : Node) (h : o[k]? = some x) : o.set k (deadN x) = o.modify k deadN := by
 apply List.ext_getElem?
 intro i
 rw [List.getElem?_set, List.getElem?_modify]
 have hk := (List.getElem?_eq_some_iff.1 h).1
 by_cases e : k = i
 ·
  subst e
  simp [hk, (List.getElem?_eq_some_iff.1 h).2]
 ·
  simp [e]
set_option maxHeartbeats 1000000 in
set_option maxRecDepth 100000 in
theorem store_Kill.calls (A0 : Option Addr) (c0 : Nat) (ll : List Node) (A1 : Option Addr) (c1 : Nat) (ds : List Dot) (r1 : List Node) (r2 : Int) (w : World) (hr0 : Kd.C k53 w A0 ll.length ll) (hc0 : ll.length ≤ c0) (hr1 : Kd.C k25 w A1 ds.length ds) (hc1 : ds.length ≤ c1) (h : store_Kill.f ll ds = some (r1, r2)) :
  Calls Tryz.prog 44 #[.slice A0 ll.length c0, .slice A1 ds.length c1] w fun e w' => ∃ v0_ : Value, e = .returned (.tuple #[v0_, .int .i64 r2]) ∧ Kd.R k53 53 w' w.heap.size (fun _ => True) v0_ r1 ∧ Below w.heap.size w w' := by
 unfold store_Kill.f at h
 by_cases hl : ll.length ≤ 1000000 ∧ ds.length ≤ 1000000
 rotate_left
 ·
  rw [if_neg hl] at h; cases h
 rw [if_pos hl] at h
 have HH := Aside0.mk (Option.some.inj h)
 have HR := Aside0.mk hr0
 have HC := Aside0.mk hc0
 have HRD := Aside0.mk hr1
 have HL := Aside0.mk hl
 have hmd := Kd.C_max hr1
 obtain ⟨b, Hb⟩ : ∃ b, Aside0 (storeOk ll = b) := ⟨_, ⟨rfl⟩⟩
 obtain ⟨b2, Hb2⟩ : ∃ b, Aside0 (ds.all dotOk = b) := ⟨_, ⟨rfl⟩⟩
 have HVAL := Aside0.mk (store_Valid.calls A0 c0 ll b w HR.out HC.out (by unfold store_Valid.f; rw [if_pos HL.out.1, Hb.out]))
 have HCF : Aside0 (∀ W, Below w.heap.size w W → Calls Tryz.prog 68 #[.slice A1 ds.length c1, .func (.func 69) #[] #[]] W fun e W' => e = .returned (.bool (!b2)) ∧ Below W.heap.size W W') := ⟨fun W hb => by
  have := ContainsFuncDot.calls (fun d => !dotOk d) 69 A1 c1 ds W (Kd.C_below HRD.out hb) hc1 (enters_of Tryz.func69 (by kernel_rfl) rfl) badDot_call
  rwa [show (ds.any fun d => !dotOk d) = !b2 by rw [← Hb2.out, List.not_all_eq_any_not]] at this⟩
 rw [Hb.out, Hb2.out] at HH
 clear h hr0 hc0 hr1 hc1 hl
 go_enter Tryz.func44, Tryz.ntmps44
 go_wp2_with fail
 refine HVAL.out.mono ?_
 rintro e V1 ⟨rfl, hb⟩
 have HB := Aside0.mk hb
 clear hb HVAL
 cases b with
 | false =>
  obtain ⟨rfl, rfl⟩ : r1 = [] ∧ r2 = 2 := by
   have := HH.out
   rw [if_neg (by simp)] at this
   cases this
   exact ⟨rfl, rfl⟩
  go_wp2
  go_ret2
  exact ⟨_, rfl, Kd.R_nil _ _ _ _ _, HB.out⟩
 | true =>
  go_wp2_with fail
  refine (HCF.out V1 HB.out).mono ?_
  rintro e V2 ⟨rfl, hb⟩
  have HB := Aside0.mk (below_more HB.out hb)
  clear hb HCF
  cases b2 with
  | false =>
   obtain ⟨rfl, rfl⟩ : r1 = [] ∧ r2 = 2 := by
    have := HH.out
    rw [if_neg (by simp)] at this
    cases this
    exact ⟨rfl, rfl⟩
   go_wp2
   go_ret2
   exact ⟨_, rfl, Kd.R_nil _ _ _ _ _, HB.out⟩
  | true =>
   go_wp2_with fail
   refine (CloneNode.calls A0 c0 ll V2 (Kd.C_below HR.out HB.out) HL.out.1).mono ?_
   rintro e V3 ⟨v3, rfl, hR3, hb⟩
   have HB3 := Aside0.mk hb
   obtain ⟨A3, c3, rfl⟩ := RN.slice hR3
   obtain ⟨n, Hn⟩ : ∃ n, Aside0 (ll.length = n) := ⟨_, ⟨rfl⟩⟩
   rw [Hn.out] at hR3 ⊢
   have HR3 := Aside0.mk hR3
   have HK := Aside0.mk (show killFrom (ll.map (·.f0)) ll (ds.drop 0) = killFrom (ll.map (·.f0)) ll ds by rw [List.drop_zero])
   obtain ⟨kr, Hkr⟩ : ∃ kr, Aside0 (killFrom (ll.map (·.f0)) ll ds = kr) := ⟨_, ⟨rfl⟩⟩
   rw [Hkr.out] at HK HH
   have HHH := Aside0.mk (show killOut kr = (r1, r2) by have := HH.out; rw [if_pos (by simp)] at this; exact this)
   obtain ⟨ks, Hks⟩ : ∃ ks, Aside0 (ll.map (·.f0) = ks) := ⟨_, ⟨rfl⟩⟩
   rw [Hks.out] at HK
   have HKI : Aside0 (incB ks = true) := ⟨by have := Hb.out; unfold storeOk at this; rw [Bool.and_eq_true] at this; rw [← Hks.out]; exact this.2⟩
   clear hb hR3
   go_wp2
   go_loopw [22] (fun v22 wr => ∃ (j : Nat) (dk : List Node), v22 = .int .i64 j ∧ j ≤ ds.length ∧ Aside0 (killFrom ks dk (ds.drop j) = kr) ∧ Aside0 (dk.map (·.f0) = ks) ∧ Aside0 (Kd.R k53 53 wr V2.heap.size (fun _ => True) (.slice A3 n c3) dk) ∧ Aside0 (Below V2.heap.size V2 wr)) (fun v22 _ => ds.length - (intOf v22).toNat)
   case atStart => exact ⟨0, ll, rfl, Nat.zero_le _, HK, Hks, HR3, HB3⟩
   case round =>
    obtain ⟨j, dk, rfl, hj, HKF, HKS, HO, HW⟩ := hrel
    by_cases hlt : j < ds.length
    ·
     obtain ⟨d, hd⟩ : ∃ d, Aside0 (ds[j]? = some d) := ⟨_, ⟨List.getElem?_eq_getElem hlt⟩⟩
     obtain ⟨ad, e, h0, h1⟩ := dot_at HRD.out (below_more HB.out HW.out) j d hd.out
     have HDR := Aside0.mk (show ds.drop j = d :: ds.drop (j + 1) by rw [List.drop_eq_getElem_cons hlt, (List.getElem?_eq_some_iff.1 hd.out).2])
     subst e
     have hdl : dk.length = n := ((Kd.R_reads' HO.out).1).symm
     have HDL := Aside0.mk hdl
     have HN6 : Aside0 (n ≤ 1000000) := ⟨by rw [← Hn.out]; exact HL.out.1⟩
     have HX := Aside0.mk (blk_new wr (dotC d))
     clear hdl
     go_wp2_with fail
     refine (storefind_call dk A3 n c3 d _ ks HKS.out HKI.out HDL.out HN6.out (Kd.C_below (show Kd.C k53 wr A3 n dk by have := (Kd.R_reads' HO.out).2.2; rwa [HDL.out] at this) (below_alloc (Below.refl _ wr) (dotC d)))).mono ?_
     rintro e V ⟨rfl, hb⟩
     have HBV := Aside0.mk (below_more (below_alloc (Below.refl _ wr) (dotC d)) hb)
     clear hb h0 h1 HX
     obtain ⟨q, Hq⟩ : ∃ q, Aside0 (posK ks d = q) := ⟨_, ⟨rfl⟩⟩
     obtain ⟨b3, Hb3⟩ : ∃ b, Aside0 (hasK ks d = b) := ⟨_, ⟨rfl⟩⟩
     rw [Hq.out, Hb3.out]
     cases b3 with
     | false =>
      obtain ⟨rfl, rfl⟩ : r1 = [] ∧ r2 = 9 := by
       have h1 := HKF.out
       rw [HDR.out] at h1
       unfold killFrom at h1
       rw [if_neg (by rw [Hb3.out]; decide)] at h1
       have := HHH.out
       rw [← h1] at this
       cases this
       exact ⟨rfl, rfl⟩
      go_wp2
      go_ret2
      exact ⟨_, rfl, Kd.R_nil _ _ _ _ _, below_more HB.out (below_more HW.out HBV.out)⟩
     | true =>
      have hqn : q < n := by
       have := hasK_lt Hb3.out
       rw [Hq.out, ← HKS.out, List.length_map, HDL.out] at this
       exact this
      obtain ⟨x, hx⟩ : ∃ x, Aside0 (dk[q]? = some x) := ⟨_, ⟨List.getElem?_eq_getElem (by rw [HDL.out]; exact hqn)⟩⟩
      have HOV := Aside0.mk (own_more HO.out HBV.out)
      obtain ⟨g, rfl⟩ : ∃ g, A3 = some ⟨g, 0, none⟩ := by
       obtain ⟨g, cap, h1, _⟩ := Kd.R_form HO.out (by rw [HDL.out]; omega)
       cases h1
       exact ⟨g, rfl⟩
      obtain ⟨y0, y1, y2, y3, y4, y5⟩ := row_six HOV.out hx.out
      go_wp2_with fail
      refine (node_Kill.calls x.f0.f0 x.f0.f1 x.f1.f0 x.f1.f1 x.f2 x.f3 _ _ _ _ _ _ V rfl).mono ?_
      rintro e V2' ⟨rfl, hb⟩
      have HBV2 := Aside0.mk (below_more HBV.out hb)
      have HOW := Aside0.mk (own_more HOV.out hb)
      clear hb y0 y1 y2 y3 y4 y5
      go_wp2_with (refine wpList_putNode rfl (.tmp 41) (.tmp 40) rfl rfl (deadN x) HOW.out hqn rfl rfl ?_; intro V4 hR4 hg4)
      have HB4 := Aside0.mk (grown_on hg4 (below_more HW.out HBV2.out) (fun k e => by cases e; exact R_base HO.out _ rfl))
      go_roundw
      case rel => exact ⟨j + 1, dk.set q (deadN x), by go_num, by omega, ⟨by rw [modify_set _ _ _ hx.out, ← Hq.out]; have h1 := HKF.out; rw [HDR.out] at h1; unfold killFrom at h1; rw [if_pos Hb3.out] at h1; exact h1⟩, ⟨by rw [modify_set _ _ _ hx.out, modify_dots]; exact HKS.out⟩, ⟨hR4⟩, HB4⟩
      case measure => simp [intOf]; omega
    ·
     obtain rfl : j = ds.length := by omega
     obtain ⟨rfl, rfl⟩ : r1 = dk ∧ r2 = 0 := by
      have h1 := HKF.out
      rw [List.drop_of_length_le (Nat.le_refl _)] at h1
      unfold killFrom at h1
      have := HHH.out
      rw [← h1] at this
      cases this
      exact ⟨rfl, rfl⟩
     have HO2 := Aside0.mk (Kd.R_lower HO.out HB.out.size)
     go_wp2
     go_ret2
     exact ⟨_, rfl, HO2.out, below_more HB.out HW.out⟩
end Go.Proofs.YtmbndijbpgobeaaGreat.PWalk
end
section
namespace Go.Proofs.YtmbndijbpgobeaaGreat.PWalk
open Go.RowKit Go.Proofs.YtmbndijbpgobeaaGreatW.PrintWords Go.Proofs.YtmbndijbpgobeaaGreatW.PrintLast Go.Proofs.YtmbndijbpgobeaaGreatW.PrintMore
attribute [local go_sem] max2_int max_two
set_option linter.unusedVariables false
set_option linter.unusedSimpArgs false
def index_Runes.l0 : Nat → Int → List Int → List (S53) → Int → Int → Option (List Int × Int)
 | 0, _, _, _, _, _ => none
 | k + 1, x5, x6, x14, x15, x16 => if x16 < x15 then (if 0 ≤ x16 then (if x16 < (x14.length : Int) then (if x6.length < 35184372088832 then (index_Runes.l0 k x5 (x6 ++ [(rd_T53 x14 x16).f3]) x14 x15 (wrap64 (x16 + 1))) else (none)) else (none)) else (none)) else (some (x6, x5))
def index_Runes.f (k : Nat) (l0 : List (S53)) : Option (List Int × Int) := (index_visible.f l0).bind fun bt216 => (index_Runes.l0 k bt216.2 ([] : List Int) bt216.1 (bt216.1.length : Int) 0)
set_option maxHeartbeats 8000000 in
set_option maxRecDepth 100000 in
theorem index_Runes.calls (k : Nat) (A0 : Option Addr) (c0 : Nat) (l0 : List (S53)) (r1 : List Int) (r2 : Int) (w : World) (hr0 : Kd.C k53 w A0 l0.length l0) (hc0 : l0.length ≤ c0) (h : index_Runes.f k l0 = some (r1, r2)) :
  Calls Tryz.prog 56 #[.slice A0 l0.length c0] w fun e w' => ∃ v0_ : Value, e = .returned (.tuple #[v0_, .int .i64 r2]) ∧ Kd.R (Kd.int .i32) 21 w' w.heap.size (fun _ => True) v0_ r1 ∧ Below w.heap.size w w' := by
 have hu53 := Tryz.underlying53
 have HR0 := Aside0.mk hr0
 have HC0 := Aside0.mk hc0
 clear hr0 hc0
 have HB := Aside0.mk (Below.refl w.heap.size w)
 have H : ((index_visible.f l0).bind fun bt216 => (index_Runes.l0 k bt216.2 ([] : List Int) bt216.1 (bt216.1.length : Int) 0)) = some (r1, r2) := h
 clear h
 replace H := Option.bind_eq_some_iff.mp H
 obtain ⟨⟨t216, t217⟩, A20, H⟩ := H
 replace H : (index_Runes.l0 k t217 ([] : List Int) t216 (t216.length : Int) 0) = some (r1, r2) := H
 have A2 := Aside0.mk A20
 clear A20
 have H' := Aside0.mk H
 clear H
 go_enter Tryz.func56, Tryz.ntmps56
 go_wp2_with (first | ((with_reducible refine gate_callee (f := 64) rfl ?_); refine goesL_ (some 11) rfl rfl Tryz.func64 (by kernel_rfl) rfl #[.slice A0 l0.length c0] rfl (by (try simp only [List.map_toArray, List.map_cons, List.map_nil]); first | done | rfl | (simp only [List.length_drop, List.length_take]; rfl)) ?_; (with_reducible refine (index_visible.calls _ _ l0 t216 t217 _ ?side1 ?side2 A2.out).mono ?_); (case side1 => repeat (first | exact HR0.out | (with_reducible refine Kd.C_alloc ?_ _) | (with_reducible refine Kd.C_drewN ?_ _) | (with_reducible refine Kd.C_drew ?_))); (case side2 => exact HC0.out); rintro e w3 ⟨v218, rfl, ho0, hb⟩; refine ⟨_, rfl, ?_⟩; have n0_ := Aside0.mk (Kd.R_lower ho0 (below_size (by repeat (first | (with_reducible first | exact HB.out | apply below_alloc | apply pw_below_drewN | apply below_drew1) | exact HB.out)))); have n1_ := Aside0.mk (below_step (by repeat (first | (with_reducible first | exact HB.out | apply below_alloc | apply pw_below_drewN | apply below_drew1) | exact HB.out)) hb); clear HB; have HO219 := n0_; have HB := n1_; clear n0_ n1_; (try clear hb); (try clear hb2); (try clear hk); (try clear hi); (try clear ho0); obtain ⟨Ao4, co4, eo4⟩ := Kd.R_slice HO219.out; subst eo4))
 go_loopg [6, 16] k (fun kq v6 v16 w' => ∃ (x6_1 : List Int) (x16_1 : Int), v16 = .int .i64 x16_1 ∧ Aside0 (index_Runes.l0 kq t217 x6_1 t216 (t216.length : Int) x16_1 = some (r1, r2)) ∧ Aside0 (kq ≤ k) ∧ Aside0 (Kd.R (Kd.int .i32) 21 w' w.heap.size (fun _ => True) v6 x6_1) ∧ Aside0 (Kd.R k53 53 w' w.heap.size (fun _ => True) (.slice Ao4 t216.length co4) t216) ∧ Aside0 (Below w.heap.size w w'))
 case atStart => exact ⟨(([] : List Int)), (0), (by first | rfl | (simp; done) | (simp [*]; done)), H', ⟨Nat.le_refl _⟩, ⟨by first | exact Kd.R_nil _ _ _ _ _ | exact Kd.N_nil _ _ _ _ _ | exact Kd.V_nil _ _ _ _ _ | exact Kd.Q_nil _ _ _ _ _ | exact Kd.S_nil _ _ _ _ _⟩, ⟨by (with_reducible repeat (first | apply Kd.R_alloc | apply Kd.R_drewN | apply Kd.R_drew)); exact HO219.out⟩, ⟨by repeat (first | (with_reducible first | exact HB.out | apply below_alloc | apply pw_below_drewN | apply below_drew1) | exact HB.out)⟩⟩
 case round =>
  clear H'
  try clear p2
  obtain ⟨x6_1, x16_1, rfl, HA, HK1, HO_6, HO_14, HB⟩ := hrel
  cases gk with
  | zero => exact absurd HA.out (by simp [index_Runes.l0])
  | succ k1 =>
   have H := HA.out
   clear HA
   simp only [index_Runes.l0] at H
   by_cases c5 : x16_1 < (t216.length : Int)
   ·
    rw [if_pos c5] at H
    have c5b0 : decide (x16_1 < (t216.length : Int)) = true := decide_eq_true c5
    clear c5
    by_cases c6 : 0 ≤ x16_1
    ·
     rw [if_pos c6] at H
     have c6b0 : decide (0 ≤ x16_1) = true := decide_eq_true c6
     clear c6
     by_cases c7 : x16_1 < (t216.length : Int)
     ·
      rw [if_pos c7] at H
      have c7b0 : decide (x16_1 < (t216.length : Int)) = true := decide_eq_true c7
      clear c7
      by_cases c8 : x6_1.length < 35184372088832
      ·
       rw [if_pos c8] at H
       have LMc8 := Aside0.mk c8
       clear c8
       obtain ⟨y222, hy222⟩ : ∃ y_ : List Int, y_ = (x6_1 ++ [(rd_T53 t216 x16_1).f3]) := ⟨_, rfl⟩
       replace H : (index_Runes.l0 k1 t217 y222 t216 (t216.length : Int) (wrap64 (x16_1 + 1))) = some (r1, r2) := by first | (rw [hy222]; with_reducible exact H) | (have H2_ := (Option.bind_some _ _).symm.trans H; rw [hy222]; with_reducible exact H2_) | (have H2_ := (Option.bind_some _ _).symm.trans H; with_reducible exact H2_) | with_reducible exact H | (rw [hy222]; exact H) | exact H
       have Ny222 := Aside0.mk hy222
       clear hy222
       have H' := Aside0.mk H
       clear H
       have p220 : 0 ≤ (x16_1 : Int) := of_decide_eq_true (by first | (with_reducible assumption) | assumption)
       have q220 : x16_1 < (t216.length : Int) := of_decide_eq_true (by first | (with_reducible assumption) | assumption)
       obtain ⟨ad220, e220, hx220_0, hx220_1, hx220_2, hx220_3, hx220_4, hx220_5⟩ := at_T53 (Kd.R_reads' HO_14.out).2.2 x16_1 p220 q220
       cases e220
       replace p220 := eq_true p220
       replace q220 := eq_true q220
       go_wp2_with (first | ((with_reducible refine gate_dst (N := 8) rfl ?_); refine box_event ?hg (N := 8) ?hd (cs := #[.int .i64 0, .int .i64 0, .int .i64 0, .int .i64 0, .int .i64 0, .int .i32 0]) (t := 53) ?hr ?_; (case hd => rfl); (case hg => rfl); (case hr => first | (go_simp; done) | (go_simp; rfl)); intro gb221 hg w9 hbox hb; have n0_ := Aside0.mk (Kd.R_below (by (with_reducible repeat (first | apply Kd.R_alloc | apply Kd.R_drewN | apply Kd.R_drew)); exact HO_6.out) hb); have n1_ := Aside0.mk (Kd.R_below (Kd.R_elderB (by (with_reducible repeat (first | apply Kd.R_alloc | apply Kd.R_drewN | apply Kd.R_drew)); exact HO_14.out) gb221 (Nat.le_of_eq hg.symm)) hb); have n2_ := Aside0.mk (below_step (by repeat (first | (with_reducible first | exact HB.out | apply below_alloc | apply pw_below_drewN | apply below_drew1) | exact HB.out)) hb); have n3_ := Aside0.mk (hbox); have n4_ := Aside0.mk ((by rw [hg]; exact (below_size (by repeat (first | (with_reducible first | exact HB.out | apply below_alloc | apply pw_below_drewN | apply below_drew1) | exact HB.out))) : w.heap.size ≤ gb221)); have n5_ := Aside0.mk ((by rw [hg]; exact (below_size (by repeat (first | (with_reducible first | exact HB.out | apply below_alloc | apply pw_below_drewN | apply below_drew1) | exact HB.out))) : w.heap.size ≤ gb221)); clear HO_6; clear HO_14; clear HB; have HO_6 := n0_; have HO_14 := n1_; have HB := n2_; have BK221 := n3_; have GW221 := n4_; have GE221 := n5_; clear n0_ n1_ n2_ n3_ n4_ n5_; clear hb hbox hg; have hcz10_0 : w9.cell? ⟨gb221, 0, none⟩ = some (.int .i64 0) := (blk_cell BK221.out 0).trans rfl; have hcz10_1 : w9.cell? ⟨gb221, 1, none⟩ = some (.int .i64 0) := (blk_cell BK221.out 1).trans rfl; have hcz10_2 : w9.cell? ⟨gb221, 2, none⟩ = some (.int .i64 0) := (blk_cell BK221.out 2).trans rfl; have hcz10_3 : w9.cell? ⟨gb221, 3, none⟩ = some (.int .i64 0) := (blk_cell BK221.out 3).trans rfl; have hcz10_4 : w9.cell? ⟨gb221, 4, none⟩ = some (.int .i64 0) := (blk_cell BK221.out 4).trans rfl; have hcz10_5 : w9.cell? ⟨gb221, 5, none⟩ = some (.int .i32 0) := (blk_cell BK221.out 5).trans rfl; have hfz10_0 := blk_frozen BK221.out 0; have hfz10_1 := blk_frozen BK221.out 1; have hfz10_2 := blk_frozen BK221.out 2; have hfz10_3 := blk_frozen BK221.out 3; have hfz10_4 := blk_frozen BK221.out 4; have hfz10_5 := blk_frozen BK221.out 5) | ((with_reducible refine gate_builtin (b := .append) (xs := #[.tmp 20, .tmp 23]) rfl ?_); at_builtin; refine Kd.R_append (Kd.int .i32) (w0 := w) w.heap.size rfl (.tmp 20) (.tmp 23) 26 21 (.int .i32 0) 4 rfl Tryz.underlying26 info21 rfl (by decide) (by omega) u6 x6_1 ((rd_T53 t216 x16_1).f3) [.int .i32 ((rd_T53 t216 x16_1).f3)] (fun _ => True) (fun _ => False) rfl (by first | (go_simp; done) | (go_simp; rfl)) ?aP (fun _ hk => hk.elim) ?aF ?aO ?aB ?aS ?aL ?_; (case aP => exact rfl); (case aB => exact (by repeat (first | (with_reducible first | exact HB.out | apply below_alloc | apply pw_below_drewN | apply below_drew1 | refine below_set ?_ GE221.out) | exact HB.out))); (case aF => exact (fun _ _ => trivial)); (case aO => exact (by (with_reducible repeat (first | apply Kd.R_alloc | apply Kd.R_drewN | apply Kd.R_drew)); exact Kd.R_mono (Kd.R_far (p := ⟨gb221, 5, none⟩) (Kd.R_far (p := ⟨gb221, 4, none⟩) (Kd.R_far (p := ⟨gb221, 3, none⟩) (Kd.R_far (p := ⟨gb221, 2, none⟩) (Kd.R_far (p := ⟨gb221, 1, none⟩) (Kd.R_far (p := ⟨gb221, 0, none⟩) (Kd.R_types HO_6.out BK221.out (by decide)) (fun _ hk => hk.2) (.int .i64 ((rd_T53 t216 x16_1).f0.f0))) (fun _ hk => hk.2) (.int .i64 ((rd_T53 t216 x16_1).f0.f1))) (fun _ hk => hk.2) (.int .i64 ((rd_T53 t216 x16_1).f1.f0))) (fun _ hk => hk.2) (.int .i64 ((rd_T53 t216 x16_1).f1.f1))) (fun _ hk => hk.2) (.int .i64 ((rd_T53 t216 x16_1).f2))) (fun _ hk => hk.2) (.int .i32 ((rd_T53 t216 x16_1).f3))) (fun _ hk => trivial))); (case aS => exact (below_size (by repeat (first | (with_reducible first | exact HB.out | apply below_alloc | apply pw_below_drewN | apply below_drew1 | refine below_set ?_ GE221.out) | exact HB.out)))); (case aL => have := LMc8.out; omega); intro v223 w11 ho hb hg hat; rw [← Ny222.out] at ho; have n0_ := Aside0.mk (Kd.R_over' (by (with_reducible repeat (first | apply Kd.R_alloc | apply Kd.R_drewN | apply Kd.R_drew)); exact (Kd.R_mono (Kd.R_far (p := ⟨gb221, 5, none⟩) (Kd.R_far (p := ⟨gb221, 4, none⟩) (Kd.R_far (p := ⟨gb221, 3, none⟩) (Kd.R_far (p := ⟨gb221, 2, none⟩) (Kd.R_far (p := ⟨gb221, 1, none⟩) (Kd.R_far (p := ⟨gb221, 0, none⟩) (Kd.R_mono HO_14.out (fun k_ hk => (⟨hk, hk.2⟩ : _ ∧ k_ ≠ gb221))) (fun _ hk => hk.2) (.int .i64 ((rd_T53 t216 x16_1).f0.f0))) (fun _ hk => hk.2) (.int .i64 ((rd_T53 t216 x16_1).f0.f1))) (fun _ hk => hk.2) (.int .i64 ((rd_T53 t216 x16_1).f1.f0))) (fun _ hk => hk.2) (.int .i64 ((rd_T53 t216 x16_1).f1.f1))) (fun _ hk => hk.2) (.int .i64 ((rd_T53 t216 x16_1).f2))) (fun _ hk => hk.2) (.int .i32 ((rd_T53 t216 x16_1).f3))) (fun _ h_ => h_.1))) (Kd.R_typed (by (with_reducible repeat (first | apply Kd.R_alloc | apply Kd.R_drewN | apply Kd.R_drew)); exact (Kd.R_mono (Kd.R_far (p := ⟨gb221, 5, none⟩) (Kd.R_far (p := ⟨gb221, 4, none⟩) (Kd.R_far (p := ⟨gb221, 3, none⟩) (Kd.R_far (p := ⟨gb221, 2, none⟩) (Kd.R_far (p := ⟨gb221, 1, none⟩) (Kd.R_far (p := ⟨gb221, 0, none⟩) (Kd.R_types HO_6.out BK221.out (by decide)) (fun _ hk => hk.2) (.int .i64 ((rd_T53 t216 x16_1).f0.f0))) (fun _ hk => hk.2) (.int .i64 ((rd_T53 t216 x16_1).f0.f1))) (fun _ hk => hk.2) (.int .i64 ((rd_T53 t216 x16_1).f1.f0))) (fun _ hk => hk.2) (.int .i64 ((rd_T53 t216 x16_1).f1.f1))) (fun _ hk => hk.2) (.int .i64 ((rd_T53 t216 x16_1).f2))) (fun _ hk => hk.2) (.int .i32 ((rd_T53 t216 x16_1).f3))) (fun _ h_ => h_.1)))) (by decide) hg); have n1_ := Aside0.mk (blk_grown (g := gb221) (o := .cells #[.int .i64 ((rd_T53 t216 x16_1).f0.f0), .int .i64 ((rd_T53 t216 x16_1).f0.f1), .int .i64 ((rd_T53 t216 x16_1).f1.f0), .int .i64 ((rd_T53 t216 x16_1).f1.f1), .int .i64 ((rd_T53 t216 x16_1).f2), .int .i32 ((rd_T53 t216 x16_1).f3)] 53 (0, 0)) (by (with_reducible repeat (first | refine blk_drewN ?_ _ | refine blk_drew ?_ | refine blk_alloc ?_ _)); refine blk_put (cs := #[.int .i64 ((rd_T53 t216 x16_1).f0.f0), .int .i64 ((rd_T53 t216 x16_1).f0.f1), .int .i64 ((rd_T53 t216 x16_1).f1.f0), .int .i64 ((rd_T53 t216 x16_1).f1.f1), .int .i64 ((rd_T53 t216 x16_1).f2), .int .i32 0]) ?_ 5 _ rfl; (with_reducible repeat (first | refine blk_drewN ?_ _ | refine blk_drew ?_ | refine blk_alloc ?_ _)); refine blk_put (cs := #[.int .i64 ((rd_T53 t216 x16_1).f0.f0), .int .i64 ((rd_T53 t216 x16_1).f0.f1), .int .i64 ((rd_T53 t216 x16_1).f1.f0), .int .i64 ((rd_T53 t216 x16_1).f1.f1), .int .i64 0, .int .i32 0]) ?_ 4 _ rfl; (with_reducible repeat (first | refine blk_drewN ?_ _ | refine blk_drew ?_ | refine blk_alloc ?_ _)); refine blk_put (cs := #[.int .i64 ((rd_T53 t216 x16_1).f0.f0), .int .i64 ((rd_T53 t216 x16_1).f0.f1), .int .i64 ((rd_T53 t216 x16_1).f1.f0), .int .i64 0, .int .i64 0, .int .i32 0]) ?_ 3 _ rfl; (with_reducible repeat (first | refine blk_drewN ?_ _ | refine blk_drew ?_ | refine blk_alloc ?_ _)); refine blk_put (cs := #[.int .i64 ((rd_T53 t216 x16_1).f0.f0), .int .i64 ((rd_T53 t216 x16_1).f0.f1), .int .i64 0, .int .i64 0, .int .i64 0, .int .i32 0]) ?_ 2 _ rfl; (with_reducible repeat (first | refine blk_drewN ?_ _ | refine blk_drew ?_ | refine blk_alloc ?_ _)); refine blk_put (cs := #[.int .i64 ((rd_T53 t216 x16_1).f0.f0), .int .i64 0, .int .i64 0, .int .i64 0, .int .i64 0, .int .i32 0]) ?_ 1 _ rfl; (with_reducible repeat (first | refine blk_drewN ?_ _ | refine blk_drew ?_ | refine blk_alloc ?_ _)); refine blk_put (cs := #[.int .i64 0, .int .i64 0, .int .i64 0, .int .i64 0, .int .i64 0, .int .i32 0]) ?_ 0 _ rfl; (with_reducible repeat (first | refine blk_drewN ?_ _ | refine blk_drew ?_ | refine blk_alloc ?_ _)); exact BK221.out) hg (Kd.R_ne HO_6.out BK221.out (by decide))); have n2_ := Aside0.mk (hb); have n3_ := Aside0.mk (ho); clear HO_14; clear BK221; clear HB; clear HO_6; have HO_14 := n0_; have BK221 := n1_; have HB := n2_; have HO224 := n3_; clear n0_ n1_ n2_ n3_; clear ho hb hg hat))
       go_roundg k1
       case measure => have := HK1.out; omega
       case rel => exact ⟨(y222), (wrap64 (x16_1 + 1)), (by first | rfl | (simp; done) | (simp [*]; done)), H', ⟨by have := HK1.out; omega⟩, ⟨by (with_reducible repeat (first | apply Kd.R_alloc | apply Kd.R_drewN | apply Kd.R_drew)); exact HO224.out⟩, ⟨by (with_reducible repeat (first | apply Kd.R_alloc | apply Kd.R_drewN | apply Kd.R_drew)); exact Kd.R_mono HO_14.out (fun _ hk => trivial)⟩, ⟨by repeat (first | (with_reducible first | exact HB.out | apply below_alloc | apply pw_below_drewN | apply below_drew1 | refine below_set ?_ GE221.out) | exact HB.out)⟩⟩
      ·
       rw [if_neg c8] at H
       exact absurd H (by simp)
     ·
      rw [if_neg c7] at H
      exact absurd H (by simp)
    ·
     rw [if_neg c6] at H
     exact absurd H (by simp)
   ·
    rw [if_neg c5] at H
    have c5b0 : decide (x16_1 < (t216.length : Int)) = false := decide_eq_false c5
    clear c5
    simp only [Option.some.injEq, Prod.mk.injEq] at H
    obtain ⟨rfl, rfl⟩ := H
    go_wp2
    go_ret2
    exact ⟨_, by first | rfl | (simp [errW_none, errW_some] <;> rfl) | (simp [*, errW_none, errW_some] <;> rfl), by (with_reducible repeat (first | apply Kd.R_alloc | apply Kd.R_drewN | apply Kd.R_drew)); exact HO_6.out, by repeat (first | (with_reducible first | exact HB.out | apply below_alloc | apply pw_below_drewN | apply below_drew1) | exact HB.out)⟩
end Go.Proofs.YtmbndijbpgobeaaGreat.PWalk
end
section
namespace Go.Proofs.YtmbndijbpgobeaaGreat.PWalk
open Go.RowKit Go.Proofs.YtmbndijbpgobeaaGreatW.PrintWords Go.Proofs.YtmbndijbpgobeaaGreatW.PrintLast Go.Proofs.YtmbndijbpgobeaaGreatW.PrintMore
attribute [local go_sem] max2_int max_two
set_option linter.unusedVariables false
set_option linter.unusedSimpArgs false
def store_Time.l0 : Nat → Int → List (S53) → Int → Int → Option (Int × Int)
 | 0, _, _, _, _ => none
 | k + 1, x4, x10, x11, x12 => if x12 < x11 then (if 0 ≤ x12 then (if x12 < (x10.length : Int) then (store_Time.l0 k (mx x4 ((rd_T53 x10 x12).f2)) x10 x11 (wrap64 (x12 + 1))) else (none)) else (none)) else (some (x4, 0))
def store_Time.f (k : Nat) (l0 : List (S53)) : Option (Int × Int) := (store_Valid.f l0).bind fun t161 => (if t161 = true then (store_Time.l0 k 0 l0 (l0.length : Int) 0) else (some (0, 2)))
set_option maxHeartbeats 8000000 in
set_option maxRecDepth 100000 in
theorem store_Time.calls (k : Nat) (A0 : Option Addr) (c0 : Nat) (l0 : List (S53)) (r1 : Int) (r2 : Int) (w : World) (hr0 : Kd.C k53 w A0 l0.length l0) (hc0 : l0.length ≤ c0) (h : store_Time.f k l0 = some (r1, r2)) :
  Calls Tryz.prog 55 #[.slice A0 l0.length c0] w fun e w' => e = .returned (.tuple #[.int .i64 r1, .int .i64 r2]) ∧ Below w.heap.size w w' := by
 have hu53 := Tryz.underlying53
 have HR0 := Aside0.mk hr0
 have HC0 := Aside0.mk hc0
 clear hr0 hc0
 have HB := Aside0.mk (Below.refl w.heap.size w)
 have H : ((store_Valid.f l0).bind fun t161 => (if t161 = true then (store_Time.l0 k 0 l0 (l0.length : Int) 0) else (some (0, 2)))) = some (r1, r2) := h
 clear h
 replace H := Option.bind_eq_some_iff.mp H
 obtain ⟨t161, A20, H⟩ := H
 replace H : (if t161 = true then (store_Time.l0 k 0 l0 (l0.length : Int) 0) else (some (0, 2))) = some (r1, r2) := H
 have A2 := Aside0.mk A20
 clear A20
 by_cases c3 : t161 = true
 ·
  subst c3
  have H1 : (store_Time.l0 k 0 l0 (l0.length : Int) 0) = some (r1, r2) := by rw [if_pos rfl] at H; exact H
  clear H
  have H := H1
  clear H1
  have H' := Aside0.mk H
  clear H
  go_enter Tryz.func55, Tryz.ntmps55
  go_wp2_with (first | ((with_reducible refine gate_callee (f := 67) rfl ?_); refine goesL_ (some 8) rfl rfl Tryz.func67 (by kernel_rfl) rfl #[.slice A0 l0.length c0] rfl (by (try simp only [List.map_toArray, List.map_cons, List.map_nil]); first | done | rfl | (simp only [List.length_drop, List.length_take]; rfl)) ?_; (with_reducible refine (store_Valid.calls _ _ l0 true _ ?side1 ?side2 A2.out).mono ?_); (case side1 => repeat (first | exact HR0.out | (with_reducible refine Kd.C_alloc ?_ _) | (with_reducible refine Kd.C_drewN ?_ _) | (with_reducible refine Kd.C_drew ?_))); (case side2 => exact HC0.out); rintro e w4 ⟨rfl, hb⟩; refine ⟨_, rfl, ?_⟩; have n0_ := Aside0.mk (below_step (by repeat (first | (with_reducible first | exact HB.out | apply below_alloc | apply pw_below_drewN | apply below_drew1) | exact HB.out)) hb); clear HB; have HB := n0_; clear n0_; (try clear hb); (try clear hb2); (try clear hk); (try clear hi)))
  go_loopg [4, 12] k (fun kq v4 v12 w' => ∃ (x4_1 : Int) (x12_1 : Int), v4 = .int .i64 x4_1 ∧ v12 = .int .i64 x12_1 ∧ Aside0 (store_Time.l0 kq x4_1 l0 (l0.length : Int) x12_1 = some (r1, r2)) ∧ Aside0 (kq ≤ k) ∧ Aside0 (Below w.heap.size w w'))
  case atStart => exact ⟨(0), (0), (by first | rfl | (simp; done) | (simp [*]; done)), (by first | rfl | (simp; done) | (simp [*]; done)), H', ⟨Nat.le_refl _⟩, ⟨by repeat (first | (with_reducible first | exact HB.out | apply below_alloc | apply pw_below_drewN | apply below_drew1) | exact HB.out)⟩⟩
  case round =>
   clear H'
   try clear p2
   try clear c3
   obtain ⟨x4_1, x12_1, rfl, rfl, HA, HK1, HB⟩ := hrel
   cases gk with
   | zero => exact absurd HA.out (by simp [store_Time.l0])
   | succ k1 =>
    have H := HA.out
    clear HA
    simp only [store_Time.l0] at H
    by_cases c5 : x12_1 < (l0.length : Int)
    ·
     rw [if_pos c5] at H
     have c5b0 : decide (x12_1 < (l0.length : Int)) = true := decide_eq_true c5
     clear c5
     by_cases c6 : 0 ≤ x12_1
     ·
      rw [if_pos c6] at H
      have c6b0 : decide (0 ≤ x12_1) = true := decide_eq_true c6
      clear c6
      by_cases c7 : x12_1 < (l0.length : Int)
      ·
       rw [if_pos c7] at H
       have c7b0 : decide (x12_1 < (l0.length : Int)) = true := decide_eq_true c7
       clear c7
       obtain ⟨ji8, hji8⟩ : ∃ j_ : Int, (mx x4_1 ((rd_T53 l0 x12_1).f2)) = j_ := ⟨_, rfl⟩
       replace H : (store_Time.l0 k1 ji8 l0 (l0.length : Int) (wrap64 (x12_1 + 1))) = some (r1, r2) := by first | (rw [hji8] at H; exact H) | (simp only [hji8] at H ⊢; exact H)
       have hji8_ : (if x4_1 < ((rd_T53 l0 x12_1).f2) then ((rd_T53 l0 x12_1).f2) else x4_1) = ji8 := hji8
       have H' := Aside0.mk H
       clear H
       have p162 : 0 ≤ (x12_1 : Int) := of_decide_eq_true (by first | (with_reducible assumption) | assumption)
       have q162 : x12_1 < (l0.length : Int) := of_decide_eq_true (by first | (with_reducible assumption) | assumption)
       obtain ⟨ad162, e162, hx162_0, hx162_1, hx162_2, hx162_3, hx162_4, hx162_5⟩ := at_T53 HR0.out x12_1 p162 q162
       cases e162
       replace hx162_0 := (HB.out.cell (World.block_lt_of_cell? w _ hx162_0)).trans hx162_0
       replace hx162_1 := (HB.out.cell (World.block_lt_of_cell? w _ hx162_1)).trans hx162_1
       replace hx162_2 := (HB.out.cell (World.block_lt_of_cell? w _ hx162_2)).trans hx162_2
       replace hx162_3 := (HB.out.cell (World.block_lt_of_cell? w _ hx162_3)).trans hx162_3
       replace hx162_4 := (HB.out.cell (World.block_lt_of_cell? w _ hx162_4)).trans hx162_4
       replace hx162_5 := (HB.out.cell (World.block_lt_of_cell? w _ hx162_5)).trans hx162_5
       replace p162 := eq_true p162
       replace q162 := eq_true q162
       go_wp2_with (first | ((with_reducible refine gate_dst (N := 6) rfl ?_); refine box_event ?hg (N := 6) ?hd (cs := #[.int .i64 0, .int .i64 0, .int .i64 0, .int .i64 0, .int .i64 0, .int .i32 0]) (t := 53) ?hr ?_; (case hd => rfl); (case hg => rfl); (case hr => first | (go_simp; done) | (go_simp; rfl)); intro gb163 hg w9 hbox hb; have n0_ := Aside0.mk (below_step (by repeat (first | (with_reducible first | exact HB.out | apply below_alloc | apply pw_below_drewN | apply below_drew1) | exact HB.out)) hb); have n1_ := Aside0.mk (hbox); have n2_ := Aside0.mk ((by rw [hg]; exact (below_size (by repeat (first | (with_reducible first | exact HB.out | apply below_alloc | apply pw_below_drewN | apply below_drew1) | exact HB.out))) : w.heap.size ≤ gb163)); have n3_ := Aside0.mk ((by rw [hg]; exact (below_size (by repeat (first | (with_reducible first | exact HB.out | apply below_alloc | apply pw_below_drewN | apply below_drew1) | exact HB.out))) : w.heap.size ≤ gb163)); clear HB; have HB := n0_; have BK163 := n1_; have GW163 := n2_; have GE163 := n3_; clear n0_ n1_ n2_ n3_; clear hb hbox hg; have hcz10_0 : w9.cell? ⟨gb163, 0, none⟩ = some (.int .i64 0) := (blk_cell BK163.out 0).trans rfl; have hcz10_1 : w9.cell? ⟨gb163, 1, none⟩ = some (.int .i64 0) := (blk_cell BK163.out 1).trans rfl; have hcz10_2 : w9.cell? ⟨gb163, 2, none⟩ = some (.int .i64 0) := (blk_cell BK163.out 2).trans rfl; have hcz10_3 : w9.cell? ⟨gb163, 3, none⟩ = some (.int .i64 0) := (blk_cell BK163.out 3).trans rfl; have hcz10_4 : w9.cell? ⟨gb163, 4, none⟩ = some (.int .i64 0) := (blk_cell BK163.out 4).trans rfl; have hcz10_5 : w9.cell? ⟨gb163, 5, none⟩ = some (.int .i32 0) := (blk_cell BK163.out 5).trans rfl; have hfz10_0 := blk_frozen BK163.out 0; have hfz10_1 := blk_frozen BK163.out 1; have hfz10_2 := blk_frozen BK163.out 2; have hfz10_3 := blk_frozen BK163.out 3; have hfz10_4 := blk_frozen BK163.out 4; have hfz10_5 := blk_frozen BK163.out 5))
       go_roundg k1
       case measure => have := HK1.out; omega
       case rel => exact ⟨(ji8), (wrap64 (x12_1 + 1)), (by first | rfl | (simp; done) | (simp only [← hji8] <;> (first | rfl | simp)) | (simp [*]; done)), (by first | rfl | (simp; done) | (simp [*]; done)), H', ⟨by have := HK1.out; omega⟩, ⟨by repeat (first | (with_reducible first | exact HB.out | apply below_alloc | apply pw_below_drewN | apply below_drew1 | refine below_set ?_ GE163.out) | exact HB.out)⟩⟩
      ·
       rw [if_neg c7] at H
       exact absurd H (by simp)
     ·
      rw [if_neg c6] at H
      exact absurd H (by simp)
    ·
     rw [if_neg c5] at H
     have c5b0 : decide (x12_1 < (l0.length : Int)) = false := decide_eq_false c5
     clear c5
     simp only [Option.some.injEq, Prod.mk.injEq] at H
     obtain ⟨rfl, rfl⟩ := H
     go_wp2
     go_ret2
     exact ⟨by first | rfl | (simp [errW_none, errW_some] <;> rfl) | (simp [*, errW_none, errW_some] <;> rfl), by repeat (first | (with_reducible first | exact HB.out | apply below_alloc | apply pw_below_drewN | apply below_drew1) | exact HB.out)⟩
 ·
  replace c3 := Bool.eq_false_iff.mpr c3
  subst c3
  have H1 : (some (0, 2)) = some (r1, r2) := by rw [if_neg (show ¬ (false = true) by decide)] at H; exact H
  clear H
  have H := H1
  clear H1
  simp only [Option.some.injEq, Prod.mk.injEq] at H
  obtain ⟨rfl, rfl⟩ := H
  go_enter Tryz.func55, Tryz.ntmps55
  go_wp2_with (first | ((with_reducible refine gate_callee (f := 67) rfl ?_); refine goesL_ (some 8) rfl rfl Tryz.func67 (by kernel_rfl) rfl #[.slice A0 l0.length c0] rfl (by (try simp only [List.map_toArray, List.map_cons, List.map_nil]); first | done | rfl | (simp only [List.length_drop, List.length_take]; rfl)) ?_; (with_reducible refine (store_Valid.calls _ _ l0 false _ ?side1 ?side2 A2.out).mono ?_); (case side1 => repeat (first | exact HR0.out | (with_reducible refine Kd.C_alloc ?_ _) | (with_reducible refine Kd.C_drewN ?_ _) | (with_reducible refine Kd.C_drew ?_))); (case side2 => exact HC0.out); rintro e w11 ⟨rfl, hb⟩; refine ⟨_, rfl, ?_⟩; have n0_ := Aside0.mk (below_step (by repeat (first | (with_reducible first | exact HB.out | apply below_alloc | apply pw_below_drewN | apply below_drew1) | exact HB.out)) hb); clear HB; have HB := n0_; clear n0_; (try clear hb); (try clear hb2); (try clear hk); (try clear hi)))
  go_ret2
  exact ⟨by first | rfl | (simp [errW_none, errW_some] <;> rfl) | (simp [*, errW_none, errW_some] <;> rfl), by repeat (first | (with_reducible first | exact HB.out | apply below_alloc | apply pw_below_drewN | apply below_drew1) | exact HB.out)⟩
def edit_Latest.f (k : Nat) (l0 : List (S53)) : Option (Int) := (store_Time.f k l0).bind fun bt164 => (some bt164.1)
set_option maxHeartbeats 8000000 in
set_option maxRecDepth 100000 in
theorem edit_Latest.calls (k : Nat) (A0 : Option Addr) (c0 : Nat) (l0 : List (S53)) (r : Int) (w : World) (hr0 : Kd.C k53 w A0 l0.length l0) (hc0 : l0.length ≤ c0) (h : edit_Latest.f k l0 = some r) :
  Calls Tryz.prog 23 #[.slice A0 l0.length c0] w fun e w' => e = .returned (.int .i64 r) ∧ Below w.heap.size w w' := by
 have HR0 := Aside0.mk hr0
 have HC0 := Aside0.mk hc0
 clear hr0 hc0
 have HB := Aside0.mk (Below.refl w.heap.size w)
 have H : ((store_Time.f k l0).bind fun bt164 => (some bt164.1)) = some r := h
 clear h
 replace H := Option.bind_eq_some_iff.mp H
 obtain ⟨⟨t164, t165⟩, A20, H⟩ := H
 replace H : (some t164) = some r := H
 have A2 := Aside0.mk A20
 clear A20
 obtain rfl := Option.some.inj H
 go_enter Tryz.func23, Tryz.ntmps23
 go_wp2_with (first | ((with_reducible refine gate_callee (f := 55) rfl ?_); refine goesL_ (some 7) rfl rfl Tryz.func55 (by kernel_rfl) rfl #[.slice A0 l0.length c0] rfl (by (try simp only [List.map_toArray, List.map_cons, List.map_nil]); first | done | rfl | (simp only [List.length_drop, List.length_take]; rfl)) ?_; (with_reducible refine (store_Time.calls k _ _ l0 t164 t165 _ ?side1 ?side2 A2.out).mono ?_); (case side1 => repeat (first | exact HR0.out | (with_reducible refine Kd.C_alloc ?_ _) | (with_reducible refine Kd.C_drewN ?_ _) | (with_reducible refine Kd.C_drew ?_))); (case side2 => exact HC0.out); rintro e w3 ⟨rfl, hb⟩; refine ⟨_, rfl, ?_⟩; have n0_ := Aside0.mk (below_step (by repeat (first | (with_reducible first | exact HB.out | apply below_alloc | apply pw_below_drewN | apply below_drew1) | exact HB.out)) hb); clear HB; have HB := n0_; clear n0_; (try clear hb); (try clear hb2); (try clear hk); (try clear hi)))
 go_ret
 exact ⟨by first | rfl | (simp [errW_none, errW_some] <;> rfl) | (simp [*, errW_none, errW_some] <;> rfl), by repeat (first | (with_reducible first | exact HB.out | apply below_alloc | apply pw_below_drewN | apply below_drew1) | exact HB.out)⟩
end Go.Proofs.YtmbndijbpgobeaaGreat.PWalk
end
section
namespace Go.Proofs.YtmbndijbpgobeaaGreat.PWalk
open Go.RowKit Go.Proofs.YtmbndijbpgobeaaGreatW.PrintWords Go.Proofs.YtmbndijbpgobeaaGreatW.PrintLast Go.Proofs.YtmbndijbpgobeaaGreatW.PrintMore
set_option linter.unusedVariables false
set_option linter.unusedSimpArgs false
open Go.Shelf
attribute [local go_sem] Oper.semAt_some
theorem op_slice {K : Act → World → Prop} {Q : Exit → Act → World → Prop} {P : Program} {o : Oper} {a : Act} {W : World} (t : TypeId) (s : Operand) (lo hi : Option Operand) (ho : o.op = .slice t s lo hi none) {v x : Value} {vl vh : Option Value} (hs : a.eval s = v) (hl : lo.map a.eval = vl) (hh : hi.map a.eval = vh)
  (hrun : (Instr.sliceAt t v vl vh none).run P W = .ok x W) (h : K (a.put o.dst x) W) : o.wp P a W K Q := by
 unfold Oper.wp
 unfold execOp
 simp only [ho, Option.map_none, hs, hl, hh]
 simp [Result.andThen, Sem.run_bind, hrun, go_sem]
 exact h
theorem run_sliced {P : Program} {t e : TypeId} {A : Option Addr} {m c : Nat} {lo hi : Option Value} {x : Value} {W : World} (ht : P.underlying t = some (.slice e)) (h : (Instr.slice t (.slice A m c) lo hi none).run P W = .ok x W) : (Instr.sliceAt t (.slice A m c) lo hi none).run P W = .ok x W := by
 have he : P.elem t = e := by simp [Program.elem, ht]
 rw [run_sliceAt_slice W t _ _ _ _ (by rw [he]; exact ht)]
 exact h
theorem RN.C {W : World} {base m c : Nat} {A : Option Addr} {xs : List Node} (h : RN W base (.slice A m c) xs) : xs.length = m ∧ m ≤ c ∧ Kd.C k53 W A m xs := by
 obtain ⟨A', c', e, hc, hC⟩ := Kd.R_reads h
 cases e
 exact ⟨rfl, hc, hC⟩
theorem C_from {α : Type} {d : Kd α} {W : World} {A : Option Addr} {m k c : Nat} {xs : List α} (h : d.C W A m xs) (hm : xs.length = m) (hk : k ≤ m) (hc : m ≤ c) : d.C W (if c = k then A else A.map (·.add (k * d.sz))) (m - k) (xs.drop k) := by
 subst hm
 have := Kd.C_drop h hk hc
 rwa [List.length_drop] at this
theorem grown_below {W0 V V' : World} {v : Value} {xs : List Node} (hb : Below W0.heap.size W0 V) (hr : RN V W0.heap.size v xs) (hg : V.grownBy V' v.ownBlock) : Below W0.heap.size W0 V' :=
 hb.grown hg hb.size (fun k e => by
  obtain ⟨_, inner, ho, _⟩ := hr
  rcases ho.2 with ⟨rfl, _⟩ | ⟨g, c, cur, rfl, h1, _⟩
  ·
   cases e
  ·
   cases e; exact h1)
end Go.Proofs.YtmbndijbpgobeaaGreat.PWalk
end
section
namespace Go.Proofs.YtmbndijbpgobeaaGreat.PWalk
open Go.RowKit Go.Proofs.YtmbndijbpgobeaaGreatW.PrintWords Go.Proofs.YtmbndijbpgobeaaGreatW.PrintLast Go.Proofs.YtmbndijbpgobeaaGreatW.PrintMore
set_option linter.unusedVariables false
set_option linter.unusedSimpArgs false
open Go.Shelf
attribute [local go_sem] Oper.semAt_some
theorem rdN {l : List Node} {i : Nat} (h : i < l.length) : rd_T53 l (i : Int) = l[i] := by simp [rd_T53, h]
theorem wrap_succ {i n : Nat} (h : i < n) (hn : n ≤ 1000000) : wrap64 ((i : Int) + 1) = ((i + 1 : Nat) : Int) := by unfold wrap64; omega
theorem ord_len {ll : List Node} (hs : storeOk ll = true) : (nds (ordOf ll)).length ≤ ll.length := by rw [nds_length]; exact ord_le (store_of hs)
theorem vis_len {ll : List Node} (hs : storeOk ll = true) : (visOf ll).length ≤ ll.length := Nat.le_trans (aliveOf_le _) (ord_len hs)
theorem first2_k {k : Nat} (hk : 3 ≤ k) (a b : Int) : index_first.f k [a, b] = some (if a = 0 then b else a) := by
 obtain ⟨m, rfl⟩ : ∃ m, k = m + 3 := ⟨k - 3, by omega⟩
 by_cases ha : a = 0
 ·
  by_cases hb : b = 0
  ·
   subst ha hb; simp [index_first.f, index_first.l0, rd, wrap64]
  ·
   subst ha
   simp [index_first.f, index_first.l0, rd, wrap64, hb]
 ·
  simp [index_first.f, index_first.l0, rd, ha]
theorem mem_vis {ll : List Node} (hs : storeOk ll = true) {x : Node} (h : x ∈ visOf ll) : x ∈ ll ∧ ¬ x.f3 = 0 := by
 unfold visOf aliveOf at h
 rw [List.mem_filter] at h
 obtain ⟨h1, h2⟩ := h
 unfold nds at h1
 rw [List.mem_map] at h1
 obtain ⟨p, hp, rfl⟩ := h1
 exact ⟨ord_mem (store_of hs) hp, by simpa using h2⟩
/-- What keeps a node's dot, parent and time. -/
def Keeps (g : Node → Node) : Prop := ∀ x, (g x).f0 = x.f0 ∧ (g x).f1 = x.f1 ∧ (g x).f2 = x.f2
theorem keeps_lt {g : Node → Node} (h : Keeps g) (a b : Node) : nodeLt (g a) (g b) = nodeLt a b := by
 unfold nodeLt
 rw [(h a).1, (h a).2.2, (h b).1, (h b).2.2]
theorem insB_map {g : Node → Node} (h : Keeps g) (x : Node) : ∀ o, insB (g x) (o.map g) = (insB x o).map g
 | [] => rfl
 | y :: r => by
  rw [List.map_cons]
  unfold insB
  rw [keeps_lt h]
  split
  ·
   rw [insB_map h x r]; rfl
  ·
   rfl
theorem foldB_map {g : Node → Node} (h : Keeps g) : ∀ (f o : List Node), (f.map g).foldl (fun o x => insB x o) (o.map g) = (f.foldl (fun o x => insB x o) o).map g
 | [], o => rfl
 | x :: f, o => by
  rw [List.map_cons, List.foldl_cons, List.foldl_cons, insB_map h, foldB_map h f]
theorem kids_map {g : Node → Node} (h : Keeps g) (l : List Node) (d : Dot) : kids (l.map g) d = (kids l d).map g := by
 unfold kids
 rw [List.filter_map, show ((fun x : Node => decide (x.f1 = d)) ∘ g) = fun x => decide (x.f1 = d) from funext fun x => by show decide ((g x).f1 = d) = _; rw [(h x).2.1]]
 exact foldB_map h _ []
theorem belowN_map {g : Node → Node} (h : Keeps g) (l : List Node) : ∀ (n dep : Nat) (d : Dot), belowN (l.map g) n dep d = (belowN l n dep d).map fun p => (p.1, g p.2)
 | 0, _, _ => rfl
 | n + 1, dep, d => by
  unfold belowN
  rw [kids_map h, List.flatMap_map, List.map_flatMap]
  refine flatMap_same fun x _ => ?_
  rw [(h x).1, belowN_map h l n]
  rfl
theorem ord_map {g : Node → Node} (h : Keeps g) (l : List Node) : nds (ordOf (l.map g)) = (nds (ordOf l)).map g := by
 unfold ordOf belowOf nds
 rw [belowN_map h, List.length_map, List.map_map, List.map_map]
 rfl
def killD (d : Dot) (x : Node) : Node := if x.f0 = d then deadN x else x
theorem killD_keeps (d : Dot) : Keeps (killD d) := fun x => by
 unfold killD
 split
 ·
  exact ⟨rfl, rfl, rfl⟩
 ·
  exact ⟨rfl, rfl, rfl⟩
theorem killD_ok {d : Dot} {x : Node} (h : nodeOk x = true) : nodeOk (killD d x) = true := by
 unfold killD
 split
 ·
  unfold nodeOk at h ⊢
  have := of_decide_eq_true h
  exact decide_eq_true ⟨this.1, this.2.1, this.2.2.1, this.2.2.2.1, this.2.2.2.2.1, .inl rfl⟩
 ·
  exact h
theorem kill_store {l : List Node} (hs : storeOk l = true) (d : Dot) : storeOk (l.map (killD d)) = true := by
 unfold storeOk at hs ⊢
 rw [Bool.and_eq_true, List.all_eq_true] at hs ⊢
 refine ⟨fun x hx => ?_, ?_⟩
 ·
  rw [List.mem_map] at hx
  obtain ⟨y, hy, rfl⟩ := hx
  exact killD_ok (hs.1 y hy)
 ·
  rw [List.map_map, show ((fun x : Node => x.f0) ∘ killD d) = fun x => x.f0 from funext fun x => (killD_keeps d x).1]
  exact hs.2
theorem modify_kill {l : List Node} (hs : Store l) {k : Nat} {x : Node} (hk : l[k]? = some x) : l.modify k deadN = l.map (killD x.f0) := by
 apply List.ext_getElem?
 intro i
 rw [List.getElem?_modify, List.getElem?_map]
 by_cases e : k = i
 ·
  subst e
  rw [hk]
  show some (if k = k then deadN x else x) = some (killD x.f0 x)
  unfold killD
  simp
 ·
  cases hi : l[i]? with
  | none => rfl
  | some y =>
   show some (if k = i then deadN y else y) = some (killD x.f0 y)
   rw [if_neg e]
   unfold killD
   rw [if_neg fun h => e (inc_unique hs.inc hk hi h.symm)]
theorem dots_nodup {l : List Node} (hs : Store l) {L : List Node} (hL : L.Nodup) (hm : ∀ x ∈ L, x ∈ l) : (L.map (·.f0)).Nodup := by
 rw [List.nodup_iff_pairwise_ne, List.pairwise_map]
 refine List.Pairwise.imp_of_mem ?_ (List.nodup_iff_pairwise_ne.1 hL)
 intro a b ha hb hne e
 exact hne (inc_eq hs.inc (hm a ha) (hm b hb) e)
end Go.Proofs.YtmbndijbpgobeaaGreat.PWalk
end
section
namespace Go.Proofs.YtmbndijbpgobeaaGreat.PWalk
open Go.RowKit Go.Proofs.YtmbndijbpgobeaaGreatW.PrintWords Go.Proofs.YtmbndijbpgobeaaGreatW.PrintLast Go.Proofs.YtmbndijbpgobeaaGreatW.PrintMore
set_option linter.unusedVariables false
set_option linter.unusedSimpArgs false
open Go.Shelf
attribute [local go_sem] Oper.semAt_some
theorem at_bk (l : List Node) (d : Dot) : MapLaw.mget (atOf (bk l)) d = idxN l 0 d := by
 have hb : atOf (bk l) = (l.zipIdx.map fun p => (p.2, p.1)).foldr (fun p m => MapLaw.mset m p.2.f0 p.1) [] := by
  exact List.foldl_reverse
 rw [hb]
 clear hb
 generalize (0 : Nat) = n
 induction l generalizing n with
 | nil => rfl
 | cons x l ih =>
  rw [List.zipIdx_cons, List.map_cons, List.foldr_cons, MapLaw.mget_mset, ih, idxN]
/-- A node of an allowed list has no flaw just where it stands on the root, or on an older node. -/
theorem flaw_zero {l : List Node} (hok : ∀ x ∈ l, nodeOk x = true) (hinc : Inc l) {i : Nat} {x : Node} (hx : l[i]? = some x) :
  flawOf l (atOf (bk l)) i = 0 ↔ (dotRoot x.f1 = true ∨ ∃ p ∈ l, p.f0 = x.f1 ∧ p.f2 < x.f2) := by
 rw [flawOf_at hx]
 have hm := List.mem_of_getElem? hx
 have hi := (List.getElem?_eq_some_iff.1 hx).1
 rw [if_neg (by rw [hok x hm]; simp)]
 have hstep : 0 < i → ∃ hp : i - 1 < l.length, dotLt l[i - 1].f0 x.f0 = true := fun h0 => by
  have hp : i - 1 < l.length := by omega
  refine ⟨hp, ?_⟩
  have := List.pairwise_iff_getElem.1 hinc (i - 1) i hp hi (by omega)
  rwa [(List.getElem?_eq_some_iff.1 hx).2] at this
 by_cases h0 : 0 < i
 obtain ⟨hp, hlt⟩ := hstep h0
 simp only [List.getElem?_eq_getElem hp, hlt, h0, true_and, Bool.true_eq_false, if_false]
 clear hp hlt
 rotate_left
 simp only [h0, false_and, if_false]
 all_goals
  clear hstep h0
  by_cases hr : dotRoot x.f1 = true
  ·
   simp [hr]
  ·
   rw [if_neg hr, at_bk]
   cases hn : idxN l 0 x.f1 with
   | none =>
    simp only []
    constructor
    ·
     intro h; cases h
    ·
     rintro (h | ⟨p, hp, e, _⟩)
     ·
      exact absurd h hr
     ·
      exact absurd e (idxN_none hn p hp)
   | some k =>
    obtain ⟨p, hp, e⟩ := idxN_some hn
    simp only [Nat.sub_zero] at hp
    simp only [hp]
    constructor
    ·
     intro h
     refine .inr ⟨p, List.mem_of_getElem? hp, e, ?_⟩
     by_cases ht : x.f2 ≤ p.f2
     ·
      simp [ht] at h
     ·
      omega
    ·
     rintro (h | ⟨q, hq, e', ht⟩)
     ·
      exact absurd h hr
     ·
      obtain ⟨j, hj⟩ := List.getElem?_of_mem hq
      have := inc_unique hinc hj hp (e'.trans e.symm)
      subst this
      rw [hp] at hj; cases hj
      rw [if_neg (by simp; omega)]
theorem faults_none {l : List Node} (h : faultsOf l = []) : ∀ i, i < l.length → flawOf l (atOf (bk l)) i = 0 := by
 have : ∀ k, faultsUpto l (atOf (bk l)) k = [] → ∀ i, i < k → flawOf l (atOf (bk l)) i = 0 := by
  intro k
  induction k with
  | zero => intro _ i hi; omega
  | succ k ih =>
   intro hk i hi
   rw [faultsUpto_succ] at hk
   obtain ⟨h1, h2⟩ := List.append_eq_nil_iff.1 hk
   rcases Nat.lt_succ_iff_lt_or_eq.1 hi with hi | rfl
   ·
    exact ih h1 i hi
   ·
    by_cases hf : flawOf l (atOf (bk l)) i = 0
    ·
     exact hf
    ·
     rw [if_neg hf] at h2; cases h2
 exact this l.length h
theorem incB_adj : ∀ {ds : List Dot}, (∀ i a b, ds[i]? = some a → ds[i + 1]? = some b → dotLt a b = true) → incB ds = true
 | [], _ => rfl
 | [_], _ => rfl
 | a :: b :: r, h => by
  simp only [incB, Bool.and_eq_true]
  exact ⟨h 0 a b rfl rfl, incB_adj fun i x y hx hy => h (i + 1) x y (by simpa using hx) (by simpa using hy)⟩
theorem well_flaws {l : List Node} (h : faultsOf l = []) {i : Nat} {x : Node} (hx : l[i]? = some x) : nodeOk x = true ∧ ¬ (0 < i ∧ (match l[i - 1]? with | some p => dotLt p.f0 x.f0 | none => true) = false) := by
 have hz := faults_none h i (List.getElem?_eq_some_iff.1 hx).1
 rw [flawOf_at hx] at hz
 have h1 : nodeOk x = true := by
  cases hn : nodeOk x with
  | true => rfl
  | false => rw [if_pos hn] at hz; cases hz
 refine ⟨h1, fun hc => ?_⟩
 rw [if_neg (by rw [h1]; decide)] at hz
 cases hp : l[i - 1]? with
 | none =>
  simp only [hp] at hc
  exact absurd hc.2 (by decide)
 | some p =>
  simp only [hp] at hc hz
  rw [if_pos hc] at hz
  cases hz
theorem well_store {l : List Node} (h : faultsOf l = []) : storeOk l = true := by
 unfold storeOk
 rw [Bool.and_eq_true, List.all_eq_true]
 constructor
 ·
  intro x hx
  obtain ⟨i, hi⟩ := List.getElem?_of_mem hx
  exact (well_flaws h hi).1
 ·
  refine incB_adj fun i a b ha hb => ?_
  rw [List.getElem?_map, Option.map_eq_some_iff] at ha hb
  obtain ⟨x, hx, rfl⟩ := ha
  obtain ⟨y, hy, rfl⟩ := hb
  have h2 := (well_flaws h hy).2
  rw [Nat.add_sub_cancel, hx] at h2
  cases hd : dotLt x.f0 y.f0 with
  | true => rfl
  | false => exact absurd ⟨Nat.succ_pos i, hd⟩ h2
theorem faultsUpto_nil {l : List Node} {m : List (Dot × Nat)} : ∀ {k : Nat}, (∀ i, i < k → flawOf l m i = 0) → faultsUpto l m k = []
 | 0, _ => rfl
 | k + 1, h => by rw [faultsUpto_succ, faultsUpto_nil fun i hi => h i (by omega), if_pos (h k (by omega))]; rfl
theorem well_yes {l : List Node} (hl : l.length ≤ 1000000) (h : faultsOf l = []) : shape_Well.f l = some true := by
 unfold shape_Well.f shape_Faults.f
 rw [if_pos hl, h]
 rfl
theorem well_no {l : List Node} (hl : l.length ≤ 1000000) (h : ¬ faultsOf l = []) : shape_Well.f l = some false := by
 unfold shape_Well.f shape_Faults.f
 rw [if_pos hl]
 have : 0 < (faultsOf l).length := List.length_pos_iff.2 h
 simp only [Option.bind_some]
 rw [show (((faultsOf l).length : Int) == 0) = false from beq_eq_false_iff_ne.2 (by omega)]
end Go.Proofs.YtmbndijbpgobeaaGreat.PWalk
end
section
namespace Go.Proofs.YtmbndijbpgobeaaGreat.PWalk
open Go.RowKit Go.Proofs.YtmbndijbpgobeaaGreatW.PrintWords Go.Proofs.YtmbndijbpgobeaaGreatW.PrintLast Go.Proofs.YtmbndijbpgobeaaGreatW.PrintMore
set_option linter.unusedVariables false
set_option linter.unusedSimpArgs false
open Go.Shelf
attribute [local go_sem] Oper.semAt_some
def firstE : List Int → Int
 | [] => 0
 | e :: r => if e = 0 then firstE r else e
theorem rdI {l : List Int} {i : Nat} (h : i < l.length) : rd l (i : Int) = l[i] := by simp [rd, h]
theorem efirst_from (l : List Int) (hl : l.length ≤ 1000000) : ∀ (q k i : Nat), i + q = l.length → q < k → edit_first.l0 k l (l.length : Int) (i : Int) = some (firstE (l.drop i)) := by
 intro q
 induction q with
 | zero =>
  intro k i hi hk
  obtain ⟨k, rfl⟩ : ∃ m, k = m + 1 := ⟨k - 1, by omega⟩
  simp only [edit_first.l0]
  rw [if_neg (by omega), List.drop_of_length_le (by omega)]
  rfl
 | succ q ih =>
  intro k i hi hk
  obtain ⟨k, rfl⟩ : ∃ m, k = m + 1 := ⟨k - 1, by omega⟩
  have hlt : i < l.length := by omega
  simp only [edit_first.l0]
  rw [if_pos (by omega), if_pos (by omega), if_pos (by omega), rdI hlt, wrap_succ hlt hl, List.drop_eq_getElem_cons hlt]
  simp only [firstE]
  by_cases e : l[i] = 0
  ·
   rw [if_pos e, if_pos e]
   exact ih k (i + 1) (by omega) (by omega)
  ·
   rw [if_neg e, if_neg e]
theorem efirst_is (l : List Int) (hl : l.length ≤ 1000000) {k : Nat} (hk : l.length < k) : edit_first.f k l = some (firstE l) := efirst_from l hl l.length k 0 (by omega) hk
theorem ewhen_is (b : Bool) (n : Int) : edit_when.f b n = some (if b = true then n else 0) := by
 unfold edit_when.f
 cases b <;> rfl
/-- The error of an index and a number of runes from it on. -/
def spanE (l : List Node) (a n : Int) : Int := if faultsOf l = [] then (if a < 0 ∨ n < 0 ∨ a > ((visOf l).length : Int) ∨ n > ((visOf l).length : Int) - a then 3 else 0) else 2
theorem elen_is {l : List Node} (hl : l.length ≤ 1000000) (hs : storeOk l = true) : index_Len.f l = some (((visOf l).length : Int), 0) := by
 unfold index_Len.f
 rw [vis_is (by omega), if_pos hs]
 rfl
theorem span_is {l : List Node} (hl : l.length ≤ 1000000) (a n : Int) {k : Nat} (hk : 3 ≤ k) : edit_span.f k l a n = some (spanE l a n) := by
 unfold edit_span.f spanE
 by_cases h : faultsOf l = []
 ·
  have hs := well_store h
  have hv := vis_len hs
  rw [well_yes hl h, Option.bind_some, if_pos rfl, elen_is hl hs, Option.bind_some, if_pos h]
  have e3 : (edit_when.f true 3).bind (fun t => (edit_first.f k [(0 : Int), t]).bind fun u => some u) = some 3 := by
   rw [ewhen_is, Option.bind_some, efirst_is _ (by decide) (by show 2 < k; omega)]
   rfl
  by_cases h1 : a < 0
  ·
   rw [if_pos h1, if_pos (.inl h1)]
   exact e3
  ·
   rw [if_neg h1]
   by_cases h2 : n < 0
   ·
    rw [if_pos h2, if_pos (.inr (.inl h2))]
    exact e3
   ·
    rw [if_neg h2]
    by_cases h3 : a > ((visOf l).length : Int)
    ·
     rw [if_pos h3, if_pos (.inr (.inr (.inl h3)))]
     exact e3
    ·
     rw [if_neg h3]
     have hw : wrap64 (((visOf l).length : Int) - a) = ((visOf l).length : Int) - a := by unfold wrap64; omega
     dsimp only
     rw [hw, ewhen_is, Option.bind_some, efirst_is _ (by simp) (by show 2 < k; omega)]
     by_cases h4 : n > ((visOf l).length : Int) - a
     ·
      rw [if_pos (decide_eq_true h4), if_pos (show a < 0 ∨ n < 0 ∨ a > ((visOf l).length : Int) ∨ n > ((visOf l).length : Int) - a from .inr (.inr (.inr h4)))]
      rfl
     ·
      rw [if_neg (show ¬ decide (n > ((visOf l).length : Int) - a) = true from fun h => h4 (of_decide_eq_true h)), if_neg (show ¬ (a < 0 ∨ n < 0 ∨ a > ((visOf l).length : Int) ∨ n > ((visOf l).length : Int) - a) by omega)]
      rfl
 ·
  rw [well_no hl h, Option.bind_some, if_neg (by decide), if_neg h]
/-- The visible nodes from an index on. -/
def cutV (l : List Node) (a n : Int) : List Node := ((visOf l).take (a + n).toNat).drop a.toNat
def deadD (ds : List Dot) (x : Node) : Node := if x.f0 ∈ ds then deadN x else x
theorem deadD_dot (ds : List Dot) (x : Node) : (deadD ds x).f0 = x.f0 := by
 unfold deadD
 split <;> rfl
theorem killFrom_is {l : List Node} (hs : storeOk l = true) : ∀ (ds : List Dot) (o : List Node), storeOk o = true → o.map (·.f0) = l.map (·.f0) → (∀ d ∈ ds, d ∈ l.map (·.f0)) → killFrom (l.map (·.f0)) o ds = some (o.map (deadD ds))
 | [], o, _, _, _ => by
  unfold killFrom
  congr 1
  rw [show deadD [] = id from funext fun x => by unfold deadD; simp]
  simp
 | d :: ds, o, ho, hk, hd => by
  obtain ⟨x, hx, e⟩ := List.mem_map.1 (by rw [hk]; exact hd d (List.mem_cons_self ..) : d ∈ o.map (·.f0))
  subst e
  obtain ⟨i, hi⟩ := List.getElem?_of_mem hx
  obtain ⟨h1, h2⟩ := find_in ho hi
  rw [hk] at h1 h2
  unfold killFrom
  rw [if_pos h2, h1, modify_kill (store_of ho) hi, killFrom_is hs ds _ (kill_store ho _) (by rw [List.map_map, ← hk]; congr 1; funext y; exact (killD_keeps _ y).1) fun z hz => hd z (List.mem_cons_of_mem _ hz), List.map_map]
  congr 2
  funext y
  show deadD ds (killD x.f0 y) = deadD (x.f0 :: ds) y
  unfold deadD killD
  by_cases h3 : y.f0 = x.f0
  ·
   rw [if_pos h3, if_pos (show y.f0 ∈ x.f0 :: ds by rw [h3]; exact List.mem_cons_self ..)]
   split <;> rfl
  ·
   rw [if_neg h3]
   by_cases h4 : y.f0 ∈ ds
   ·
    rw [if_pos h4, if_pos (List.mem_cons_of_mem _ h4)]
   ·
    rw [if_neg h4, if_neg (by rw [List.mem_cons]; rintro (h | h); exact h3 h; exact h4 h)]
/-- What a deletion answers. -/
def delE (l : List Node) (a n : Int) : List Node × Int :=
 if spanE l a n ≠ 0 then ([], spanE l a n) else if n > 10000 then ([], 5) else ((l.filter fun x => decide (x.f0 ∈ (cutV l a n).map (·.f0))).map deadN, 0)
def edit_Delete.f (l0 : List Node) (a1 a2 : Int) : Option (List Node × Int) := if l0.length ≤ 400000 then some (delE l0 a1 a2) else none
theorem cut_sub (l : List Node) (a n : Int) : (cutV l a n).Sublist (visOf l) := (List.drop_sublist _ _).trans (List.take_sublist _ _)
theorem cut_dots {l : List Node} (hs : storeOk l = true) (a n : Int) : ∀ d ∈ (cutV l a n).map (·.f0), d ∈ l.map (·.f0) := by
 intro d hd
 obtain ⟨x, hx, rfl⟩ := List.mem_map.1 hd
 exact List.mem_map.2 ⟨x, (mem_vis hs ((cut_sub l a n).subset hx)).1, rfl⟩
theorem vis_nodup {l : List Node} (hs : storeOk l = true) : ((visOf l).map (·.f0)).Nodup := by
 refine dots_nodup (store_of hs) ?_ fun x hx => (mem_vis hs hx).1
 unfold visOf aliveOf
 exact (ord_nodup (store_of hs)).sublist List.filter_sublist
theorem cut_nodup {l : List Node} (hs : storeOk l = true) (a n : Int) : ((cutV l a n).map (·.f0)).Nodup := (vis_nodup hs).sublist ((cut_sub l a n).map _)
theorem cut_ok {l : List Node} (hs : storeOk l = true) (a n : Int) : ((cutV l a n).map (·.f0)).all dotOk = true := by
 rw [List.all_eq_true]
 intro d hd
 obtain ⟨x, hx, rfl⟩ := List.mem_map.1 (cut_dots hs a n d hd)
 have := (store_of hs).ok x hx
 unfold nodeOk at this
 exact (of_decide_eq_true this).1
theorem kill_cut {l : List Node} (hl : l.length ≤ 1000000) (hs : storeOk l = true) (a n : Int) : store_Kill.f l ((cutV l a n).map (·.f0)) = some (l.map (deadD ((cutV l a n).map (·.f0))), 0) := by
 have h1 : (cutV l a n).length ≤ 1000000 := Nat.le_trans (cut_sub l a n).length_le (Nat.le_trans (vis_len hs) hl)
 unfold store_Kill.f
 rw [if_pos ⟨hl, by rw [List.length_map]; exact h1⟩, if_pos ⟨hs, cut_ok hs a n⟩, killFrom_is hs _ l hs rfl (cut_dots hs a n)]
 rfl
end Go.Proofs.YtmbndijbpgobeaaGreat.PWalk
end
section
namespace Go.Proofs.YtmbndijbpgobeaaGreat.PWalk
open Go.RowKit Go.Proofs.YtmbndijbpgobeaaGreatW.PrintWords Go.Proofs.YtmbndijbpgobeaaGreatW.PrintLast Go.Proofs.YtmbndijbpgobeaaGreatW.PrintMore
set_option linter.unusedVariables false
set_option linter.unusedSimpArgs false
open Go.Shelf
attribute [local go_sem] Oper.semAt_some
set_option maxHeartbeats 1000000 in
set_option maxRecDepth 100000 in
theorem setD_call (A0 : Option Addr) (n c0 : Nat) (xs : List Dot) (w : World) (hn : xs.length = n) (hr0 : Kd.C k25 w A0 n xs) (hl : n ≤ 1000000) (hnd : xs.Nodup) :
  Calls Tryz.prog 45 #[.slice A0 n c0] w fun e w' => ∃ v ys, e = .returned v ∧ RD w' w.heap.size v ys ∧ incB ys = true ∧ ys.Perm xs ∧ Below w.heap.size w w' := by
 have HCL := CloneDot.calls A0 c0 xs w (by rw [hn]; exact hr0) (by rw [hn]; exact hl)
 rw [hn] at HCL
 have HCL := Aside0.mk HCL
 have HND := Aside0.mk hnd
 have Hn := Aside0.mk hn
 have HL := Aside0.mk hl
 clear hr0 hn hnd hl
 go_enter Tryz.func45, Tryz.ntmps45
 go_wp2_with fail
 refine HCL.out.mono ?_
 rintro e w1 ⟨v, rfl, hv, hb⟩
 obtain ⟨A1, c1, rfl⟩ := RD.slice hv
 rw [Hn.out] at hv ⊢
 have HSO := Aside0.mk (sortD_call w.heap.size n (.slice A1 n c1) xs w1 hv (by have h1 := Hn.out; have h2 := HL.out; omega))
 have HV := Aside0.mk hv
 have HB := Aside0.mk hb
 clear hv hb HCL
 go_wp2_with fail
 refine HSO.out.mono ?_
 rintro e w2 ⟨rfl, ys, hys, hperm, hpw, ht⟩
 have hb2 := ht.on HB.out (fun i e => (RD.block HV.out e).1)
 have hinc := adjacent_inc (hperm.nodup_iff.2 HND.out) hpw
 have hyl : ys.length = n := hperm.length_eq.trans Hn.out
 have HC : Kd.C k25 w2 A1 n ys := by
  obtain ⟨A', c', e, _, hC⟩ := Kd.R_reads hys
  cases e
  rw [hyl] at hC
  exact hC
 have HCO := Aside0.mk (compactD_call A1 n c1 ys w2 hyl HC HL.out hinc)
 have HYS := Aside0.mk hys
 have HINC := Aside0.mk hinc
 have HP := Aside0.mk hperm
 have HB2 := Aside0.mk hb2
 clear hys hperm hpw ht hb2 hinc hyl HC HSO
 go_wp2_with fail
 refine HCO.out.mono ?_
 rintro e w3 ⟨rfl, hb⟩
 have HB3 := Aside0.mk hb
 clear hb
 go_wp2
 go_ret
 exact ⟨_, ys, rfl, RD.below' HYS.out HB3.out, HINC.out, HP.out, below_more HB2.out HB3.out⟩
end Go.Proofs.YtmbndijbpgobeaaGreat.PWalk
end
section
namespace Go.Proofs.YtmbndijbpgobeaaGreat.PWalk
open Go.RowKit Go.Proofs.YtmbndijbpgobeaaGreatW.PrintWords Go.Proofs.YtmbndijbpgobeaaGreatW.PrintLast Go.Proofs.YtmbndijbpgobeaaGreatW.PrintMore
attribute [local go_sem] max2_int max_two
set_option linter.unusedVariables false
set_option linter.unusedSimpArgs false
theorem eqA53 (d : Nat) (w : World) (x0 y0 : Int) (x1 y1 : Int) (x2 y2 : Int) (x3 y3 : Int) (x4 y4 : Int) (x5 y5 : Int) :
  (Op.equalIn (d + 3) 53 (.agg #[.int .i64 x0, .int .i64 x1, .int .i64 x2, .int .i64 x3, .int .i64 x4, .int .i32 x5]) (.agg #[.int .i64 y0, .int .i64 y1, .int .i64 y2, .int .i64 y3, .int .i64 y4, .int .i32 y5])).run Tryz.prog w = .ok ((x0 == y0 && (x1 == y1)) && ((x2 == y2 && (x3 == y3)) && (x4 == y4 && (x5 == y5)))) w := by
 refine eqA_of Tryz.underlying53 (by kernel_rfl) ?_
 refine eqf_cons (by rfl) (by go_simp) (by go_simp) (eqA25 (d + 0) w _ _ _ _) ?_
 refine eqf_cons (by rfl) (by go_simp) (by go_simp) (eqA25 (d + 0) w _ _ _ _) ?_
 refine eqf_cons (by rfl) (by go_simp; rfl) (by go_simp; rfl) (by go_simp) ?_
 exact eqf_last (by rfl) (by go_simp; rfl) (by go_simp; rfl) (by go_simp)
end Go.Proofs.YtmbndijbpgobeaaGreat.PWalk
end
