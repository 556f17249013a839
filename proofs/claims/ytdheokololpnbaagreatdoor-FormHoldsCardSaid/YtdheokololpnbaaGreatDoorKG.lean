/-
  The theorem of stage 13: the law FormHolds returns true for every list of nodes, where the program's words of flaws are laid as its text lays them. Part 7 of 9.
-/
import Derived.Test.YtdheokololpnbaaGreatDoorKF
import Derived.Deep.Cut
section
namespace Go.Proofs.YtdheokololpnbaaGreatDoor.PWalk
open Go.RowKit Go.Proofs.YtdheokololpnbaaGreatDoorW.PrintWords Go.Proofs.YtdheokololpnbaaGreatDoorW.PrintLast Go.Proofs.YtdheokololpnbaaGreatDoorW.PrintMore
set_option linter.unusedVariables false
set_option linter.unusedSimpArgs false
open Go.Shelf
attribute [local go_sem] Oper.semAt_some
abbrev keyed (l : List Node) : List (Dot × Node) := l.map fun x => (x.f0, x)
theorem keyed_keys (l : List Node) : (keyed l).map (·.1) = l.map (·.f0) := by simp [keyed, Function.comp_def]
theorem mset_end {m : List (Dot × Node)} {d : Dot} (h : MapLaw.mget m d = none) (x : Node) : MapLaw.mset m d x = m ++ [(d, x)] := by
 induction m with
 | nil => rfl
 | cons p r ih =>
  rw [MapLaw.mget_cons] at h
  rw [MapLaw.mset]
  split at h
  ·
   cases h
  ·
   rename_i hne
   rw [if_neg hne, ih h]; rfl
theorem nd_at {l : List Node} (h : (l.map (·.f0)).Nodup) {k : Nat} {x : Node} (hk : l[k]? = some x) : x.f0 ∉ (l.take k).map (·.f0) := by
 intro hm
 obtain ⟨y, hy, e⟩ := List.mem_map.1 hm
 obtain ⟨j, hj⟩ := List.getElem?_of_mem hy
 rw [List.getElem?_take] at hj
 split at hj
 ·
  rename_i hjk
  obtain ⟨hj1, hj2⟩ := List.getElem?_eq_some_iff.1 hj
  obtain ⟨hk1, hk2⟩ := List.getElem?_eq_some_iff.1 hk
  rw [List.nodup_iff_pairwise_ne, List.pairwise_iff_getElem] at h
  have := h j k (by rw [List.length_map]; exact hj1) (by rw [List.length_map]; exact hk1) hjk
  rw [List.getElem_map, List.getElem_map, hj2, hk2] at this
  exact this e
 ·
  cases hj
theorem take_get {l : List Node} {k : Nat} {x : Node} (hk : l[k]? = some x) : l.take (k + 1) = l.take k ++ [x] := by
 rw [List.take_add_one, hk]; rfl
set_option maxHeartbeats 2000000 in
set_option maxRecDepth 100000 in
theorem store_Of.calls (A0 : Option Addr) (c0 : Nat) (l r : List Node) (w : World) (hr0 : Kd.C k35 w A0 l.length l) (hc0 : l.length ≤ c0) (hl : l.length ≤ 1000001)
  (hok : ∀ x ∈ l, nodeOk x = true) (hnd : (l.map (·.f0)).Nodup) (hrp : r.Perm l) (hri : Inc r) :
  Calls Tryz.prog 32 #[.slice A0 l.length c0] w fun e w' => ∃ v : Value, e = .returned (.tuple #[v, .int .i64 0]) ∧ Kd.R k35 35 w' w.heap.size (fun _ => True) v r ∧ Below w.heap.size w w' := by
 have HR := Aside0.mk hr0
 have HCF := Aside0.mk (ContainsFuncNode.calls (fun x => !nodeOk x) 25 #[] A0 c0 l w hr0 hc0 Tryz.call25 (fun x W hW => store_invalid.calls 1 _ _ _ _ _ _ _ W (invalid_is 0 x)))
 have HAN : Aside0 ((l.any fun x => !nodeOk x) = false) := ⟨by
  rw [List.any_eq_false]
  intro x hx
  rw [hok x hx]; decide⟩
 rw [HAN.out] at HCF
 have HND := Aside0.mk hnd
 have HRP := Aside0.mk hrp
 have HRI := Aside0.mk hri
 obtain ⟨n, Hn⟩ : ∃ n, Aside0 (l.length = n) := ⟨_, ⟨rfl⟩⟩
 have HNL := Aside0.mk hl
 rw [Hn.out] at HCF HR hl ⊢
 have hu := Tryz.underlying35
 have hu2 := Tryz.underlying33
 have hmm := @run_makeMap Tryz.prog
 clear hr0 hok hnd hrp hri hc0
 go_enter Tryz.func32, Tryz.ntmps32
 go_wp2_with fail
 refine HCF.out.mono ?_
 rintro e V ⟨rfl, hb⟩
 have HB := Aside0.mk hb
 clear hb HCF
 have HM0 := Aside0.mk ((MapLaw.MapIs.new (enc := vDot) (val := vNode) V).below (below_alloc (Below.refl _ _) (.map #[] 0)))
 have HA0 := Aside0.mk (MapLaw.MapIs.new (enc := vDot) (val := vNode) (V.alloc (.map #[] 0)))
 have HB0 := Aside0.mk (below_more (below_more HB.out (below_alloc (Below.refl _ V) (.map #[] 0))) (below_alloc (Below.refl _ (V.alloc (.map #[] 0))) (.map #[] 0)))
 have hVs : Aside0 (w.heap.size ≤ V.heap.size) := ⟨HB.out.size⟩
 go_wp2
 go_loopw [25] (fun i wr => ∃ (k : Nat) (mA : List (Dot × Node)), i = .int .i64 k ∧ k ≤ n ∧ Aside0 (MapLaw.MapIs vDot vNode wr V.heap.size (keyed (l.take k))) ∧ Aside0 (MapLaw.MapIs vDot vNode wr (V.heap.size + 1) mA) ∧ Aside0 (∀ d, d ∉ (l.take k).map (·.f0) → MapLaw.mget mA d = none) ∧ Aside0 (Below w.heap.size w wr)) (fun i _ => n - (intOf i).toNat)
 case atStart => exact ⟨0, [], rfl, Nat.zero_le _, HM0, by simpa using HA0, ⟨fun d _ => rfl⟩, HB0⟩
 case round =>
  obtain ⟨k, mA, rfl, hk, HM, HA, HAK, HW⟩ := hrel
  by_cases hlt : k < n
  ·
   obtain ⟨x, hx⟩ : ∃ x, Aside0 (l[k]? = some x) := ⟨_, ⟨List.getElem?_eq_getElem (by rw [Hn.out]; exact hlt)⟩⟩
   obtain ⟨ad, e, h0, h1, h2, h3, h4, h5⟩ := node_at HR.out HW.out k x hx.out
   subst e
   go_wp2_with (first | (at_lookup; refine MapLaw.wpList_lookup rfl _ _ _ true rfl dotKey Tryz.underlying82 (z := .agg #[.int .i64 0, .int .i64 0, .int .i64 0, .int .i64 0, .int .i64 0, .int .i32 0]) Tryz.zeroValue35 x.f0 rfl rfl (HA.out.below (below_alloc (Below.refl _ _) _)) (v := .agg #[.int .i64 0, .int .i64 0, .int .i64 0, .int .i64 0, .int .i64 0, .int .i32 0]) (is := false) (by rw [HAK.out _ (nd_at HND.out hx.out)]; rfl) (by rw [HAK.out _ (nd_at HND.out hx.out)]; rfl) ?_) | fail)
   have HX := Aside0.mk (blk_alloc (blk_new wr (boxN x)) (.cells #[.int .i64 0, .int .i64 0, .int .i64 0, .int .i64 0, .int .i64 0, .int .i32 0] 35))
   have HBX := Aside0.mk (below_more (below_alloc (Below.refl _ wr) (boxN x)) (below_alloc (Below.refl _ (wr.alloc (boxN x))) (.cells #[.int .i64 0, .int .i64 0, .int .i64 0, .int .i64 0, .int .i64 0, .int .i32 0] 35)))
   clear h0 h1 h2 h3 h4 h5
   refine (dead_call x _).mono ?_
   rintro e W1 ⟨rfl, hb⟩
   have HX := Aside0.mk (blk_keep HX.out hb)
   have HBX := Aside0.mk (below_more HBX.out hb)
   clear hb
   have HM2 := Aside0.mk (HM.out.below HBX.out)
   have HA2 := Aside0.mk (HA.out.below HBX.out)
   have HB2 := Aside0.mk (below_more HW.out HBX.out)
   by_cases hd : x.f3 = 0
   ·
    have HD := Aside0.mk hd
    rw [show decide (x.f3 = 0) = true by simp [hd]]
    clear hd
    have HAK2 : Aside0 (∀ d, d ∉ (l.take (k + 1)).map (·.f0) → MapLaw.mget mA d = none) := ⟨fun d hd => HAK.out d fun h => hd (by rw [take_get hx.out, List.map_append]; exact List.mem_append_left _ h)⟩
    obtain ⟨x0, x1, x2, x3, x4, x5⟩ := box_cells HX.out
    have HXM := Aside0.mk (blk_alloc HX.out (.cells #[.int .i64 0, .int .i64 0, .int .i64 0, .int .i64 0, .int .i64 0, .int .i32 0] 35))
    obtain ⟨z0, z1, z2, z3, z4, z5⟩ := box_cells HXM.out
    have HNM : Aside0 (MapLaw.mget (keyed (l.take k)) x.f0 = none) := ⟨by rw [MapLaw.mget_none_iff, keyed_keys]; exact nd_at HND.out hx.out⟩
    have HMZ := Aside0.mk (HM2.out.below (below_alloc (Below.refl _ _) (.cells #[.int .i64 0, .int .i64 0, .int .i64 0, .int .i64 0, .int .i64 0, .int .i32 0] 35)))
    have HAZ := Aside0.mk (HA2.out.below (below_alloc (Below.refl _ _) (.cells #[.int .i64 0, .int .i64 0, .int .i64 0, .int .i64 0, .int .i64 0, .int .i32 0] 35)))
    have HBZ := Aside0.mk (below_more HB2.out (below_alloc (Below.refl _ _) (.cells #[.int .i64 0, .int .i64 0, .int .i64 0, .int .i64 0, .int .i64 0, .int .i32 0] 35)))
    go_wp2_with (first | (at_lookup; refine MapLaw.wpList_lookup rfl _ _ _ true rfl dotKey Tryz.underlying82 (z := .agg #[.int .i64 0, .int .i64 0, .int .i64 0, .int .i64 0, .int .i64 0, .int .i32 0]) Tryz.zeroValue35 x.f0 rfl rfl HM2.out (v := .agg #[.int .i64 0, .int .i64 0, .int .i64 0, .int .i64 0, .int .i64 0, .int .i32 0]) (is := false) (by rw [HNM.out]; rfl) (by rw [HNM.out]; rfl) ?_) | (at_mapUpdate; (refine MapLaw.wpList_update rfl _ _ _ _ rfl dotKey Tryz.underlying82 x.f0 x rfl rfl rfl HMZ.out ?_); intro W5 hM5 hg5) | fail)
    have HM5 : Aside0 (MapLaw.MapIs vDot vNode W5 V.heap.size (keyed (l.take (k + 1)))) := ⟨by rw [mset_end HNM.out, ← show keyed (l.take (k + 1)) = keyed (l.take k) ++ [(x.f0, x)] by rw [take_get hx.out, keyed, List.map_append]; rfl] at hM5; exact hM5⟩
    have HA5 : Aside0 (MapLaw.MapIs vDot vNode W5 (V.heap.size + 1) mA) := ⟨HAZ.out.same (hg5.block _ HAZ.out.lt (fun e => by have := Option.some.inj e; omega))⟩
    have HB5 := Aside0.mk (grown_on hg5 HBZ.out (fun k e => by have := Option.some.inj e; have := hVs.out; omega))
    clear hM5 hg5 x0 x1 x2 x3 x4 x5 z0 z1 z2 z3 z4 z5
    go_roundw
    case rel => exact ⟨k + 1, mA, by go_num, by omega, HM5, HA5, HAK2, HB5⟩
    case measure => simp [intOf]; omega
   ·
    have HD := Aside0.mk hd
    rw [show decide (x.f3 = 0) = false by simp [hd]]
    clear hd
    have HAK2 : Aside0 (∀ d, d ∉ (l.take (k + 1)).map (·.f0) → MapLaw.mget (MapLaw.mset mA x.f0 x) d = none) := ⟨fun d hd => by
     rw [take_get hx.out, List.map_append, List.mem_append] at hd
     rw [MapLaw.mget_mset, if_neg (fun e => hd (.inr (by rw [e]; simp)))]
     exact HAK.out d fun h => hd (.inl h)⟩
    obtain ⟨x0, x1, x2, x3, x4, x5⟩ := box_cells HX.out
    go_upto_region 14 with (at_mapUpdate; refine MapLaw.wpList_update rfl _ _ _ _ rfl dotKey Tryz.underlying82 x.f0 x rfl rfl rfl HA2.out ?_; intro W3 hA3 hg3)
    have HM2 := Aside0.mk (HM2.out.same (hg3.block _ HM2.out.lt (fun e => by have := Option.some.inj e; omega)))
    have HX := Aside0.mk ((hg3.block _ (blk_lt HX.out) (fun e => by have := Option.some.inj e; have := HA.out.lt; omega)).trans HX.out)
    have HB2 := Aside0.mk (grown_on hg3 HB2.out (fun k e => by have := Option.some.inj e; have := hVs.out; omega))
    have HA2 := Aside0.mk hA3
    clear hA3 hg3 x0 x1 x2 x3 x4 x5
    obtain ⟨x0, x1, x2, x3, x4, x5⟩ := box_cells HX.out
    have HXM := Aside0.mk (blk_alloc HX.out (.cells #[.int .i64 0, .int .i64 0, .int .i64 0, .int .i64 0, .int .i64 0, .int .i32 0] 35))
    obtain ⟨z0, z1, z2, z3, z4, z5⟩ := box_cells HXM.out
    have HNM : Aside0 (MapLaw.mget (keyed (l.take k)) x.f0 = none) := ⟨by rw [MapLaw.mget_none_iff, keyed_keys]; exact nd_at HND.out hx.out⟩
    have HMZ := Aside0.mk (HM2.out.below (below_alloc (Below.refl _ _) (.cells #[.int .i64 0, .int .i64 0, .int .i64 0, .int .i64 0, .int .i64 0, .int .i32 0] 35)))
    have HAZ := Aside0.mk (HA2.out.below (below_alloc (Below.refl _ _) (.cells #[.int .i64 0, .int .i64 0, .int .i64 0, .int .i64 0, .int .i64 0, .int .i32 0] 35)))
    have HBZ := Aside0.mk (below_more HB2.out (below_alloc (Below.refl _ _) (.cells #[.int .i64 0, .int .i64 0, .int .i64 0, .int .i64 0, .int .i64 0, .int .i32 0] 35)))
    go_wp2_with (first | (at_lookup; refine MapLaw.wpList_lookup rfl _ _ _ true rfl dotKey Tryz.underlying82 (z := .agg #[.int .i64 0, .int .i64 0, .int .i64 0, .int .i64 0, .int .i64 0, .int .i32 0]) Tryz.zeroValue35 x.f0 rfl rfl HM2.out (v := .agg #[.int .i64 0, .int .i64 0, .int .i64 0, .int .i64 0, .int .i64 0, .int .i32 0]) (is := false) (by rw [HNM.out]; rfl) (by rw [HNM.out]; rfl) ?_) | (at_mapUpdate; (refine MapLaw.wpList_update rfl _ _ _ _ rfl dotKey Tryz.underlying82 x.f0 x rfl rfl rfl HMZ.out ?_); intro W5 hM5 hg5) | fail)
    have HM5 : Aside0 (MapLaw.MapIs vDot vNode W5 V.heap.size (keyed (l.take (k + 1)))) := ⟨by rw [mset_end HNM.out, ← show keyed (l.take (k + 1)) = keyed (l.take k) ++ [(x.f0, x)] by rw [take_get hx.out, keyed, List.map_append]; rfl] at hM5; exact hM5⟩
    have HA5 : Aside0 (MapLaw.MapIs vDot vNode W5 (V.heap.size + 1) (MapLaw.mset mA x.f0 x)) := ⟨HAZ.out.same (hg5.block _ HAZ.out.lt (fun e => by have := Option.some.inj e; omega))⟩
    have HB5 := Aside0.mk (grown_on hg5 HBZ.out (fun k e => by have := Option.some.inj e; have := hVs.out; omega))
    clear hM5 hg5 x0 x1 x2 x3 x4 x5 z0 z1 z2 z3 z4 z5
    go_roundw
    case rel => exact ⟨k + 1, (MapLaw.mset mA x.f0 x), by go_num, by omega, HM5, HA5, HAK2, HB5⟩
    case measure => simp [intOf]; omega
  ·
   obtain rfl : k = n := by omega
   have HM := Aside0.mk (show MapLaw.MapIs vDot vNode wr V.heap.size (keyed l) by have := HM.out; rwa [List.take_of_length_le (by rw [Hn.out]; exact Nat.le_refl _)] at this)
   obtain ⟨B, HBV⟩ : ∃ B, Aside0 (V.heap.size = B) := ⟨_, ⟨rfl⟩⟩
   have HSB := Aside0.mk (show w.heap.size ≤ B by rw [← HBV.out]; exact hVs.out)
   rw [HBV.out] at HM ⊢
   clear HA HAK HM0 HA0 HB0 hmm
   go_wp2_with (at_range; refine MapLaw.wpList_range rfl _ _ rfl Tryz.underlying82 rfl HM.out ?_; intro V2 hrg0 hg0 hs0)
   obtain ⟨R0, HR0⟩ : ∃ R0, Aside0 (wr.heap.size = R0) := ⟨_, ⟨rfl⟩⟩
   rw [HR0.out] at hrg0 hs0 ⊢
   have HRG := Aside0.mk hrg0
   have HBR := Aside0.mk (show B < R0 by rw [← HR0.out]; exact HM.out.lt)
   have HW2 := Aside0.mk (grown_on hg0 HW.out (fun k e => by cases e))
   clear hrg0 hg0
   go_frame
   go_loopw [16] (fun v wr => ∃ out left, Aside0 (MapLaw.MRange vDot vNode wr B R0 (keyed l) out left) ∧ Aside0 (RN wr (R0 + 1) v (out.map (·.2))) ∧ Aside0 (Below w.heap.size w wr)) (fun _ wr => wr.rangeLeft B R0)
   case atStart => exact ⟨[], _, HRG, ⟨Kd.R_nil _ _ _ _ _⟩, HW2⟩
   case round =>
    obtain ⟨out, left, HRG, HU, HWW⟩ := hrel
    go_wp2_with (at_next; refine MapLaw.wpList_next rfl _ rfl rfl HRG.out ?_ ?_)
    ·
     intro hl0
     subst hl0
     have HP : Aside0 ((out.map (·.2)).Perm l) := ⟨by
      have := (HRG.out.done).map (·.2)
      rwa [show (keyed l).map (·.2) = l by simp [keyed, Function.comp_def]] at this⟩
     have HS := Aside0.mk (sortNd_call (R0 + 1) u16 (out.map (·.2)) wr HU.out (by rw [HP.out.length_eq]; exact HNL.out))
     have HLE := Aside0.mk (show w.heap.size ≤ R0 + 1 by have := HSB.out; have := HBR.out; omega)
     have HUB := Aside0.mk (R_base HU.out)
     clear HU HRG
     go_wp2_with fail
     refine HS.out.mono ?_
     rintro e V3 ⟨rfl, ys, hRy, hpy, hsy, ht⟩
     obtain rfl := inc_perm (hpy.trans (HP.out.trans HRP.out.symm)) hsy HRI.out
     have HY := Aside0.mk (Kd.R_lower hRy HLE.out)
     have HT := Aside0.mk (ht.on HWW.out (fun i e => by have := HUB.out i e; have := HLE.out; omega))
     clear hRy ht hsy hpy HS
     go_wp2
     go_ret2
     exact ⟨_, rfl, HY.out, HT.out⟩
    ·
     intro kk x left' W1 hrg1 hlt1 hg1 hs1 hen
     have HRG1 := Aside0.mk hrg1
     have HU1 := Aside0.mk (HU.out.keep (V := W1) fun g hg => hg1.block g (HU.out.lt hg) (fun e => by have := Option.some.inj e; have := R_base HU.out g hg; omega))
     have HW1 := Aside0.mk (grown_on hg1 HWW.out (fun k e => by have := Option.some.inj e; have := HSB.out; have := HBR.out; omega))
     have HLT1 := Aside0.mk hlt1
     have HB3 := Aside0.mk (below_more (below_alloc (Below.refl _ W1) (boxN x)) (below_alloc (Below.refl _ (W1.alloc (boxN x))) (boxN x)))
     have HLN : Aside0 ((out.map (·.2)).length + 1 ≤ 1000001) := ⟨by
      obtain ⟨_, _, _, _, _, _, _, _, _, _, _, _, _, hp⟩ := hrg1
      have := hp.length_eq
      simp only [List.length_append, List.length_cons, List.length_nil, List.length_map] at this ⊢
      have := HNL.out
      omega⟩
     have hbx := blk_new (W1.alloc (boxN x)) (boxN x)
     rw [World.size_alloc] at hbx
     obtain ⟨u', w', hrun, hR', hgr, _⟩ := run_append_node (R0 + 1) 22 u16 (out.map (·.2)) x (W1.heap.size + 1) 1 _ (own_more HU1.out HB3.out) hbx (by have := HB3.out.size; have := hrg1.lt.2; omega) HLN.out
     have HRUN := Aside0.mk hrun
     have HR5 : Aside0 (RN w' (R0 + 1) u' ((out ++ [(kk, x)]).map (·.2))) := ⟨by rw [List.map_append]; exact hR'⟩
     have HRG5 : Aside0 (MapLaw.MRange vDot vNode w' B R0 (keyed l) (out ++ [(kk, x)]) left') := ⟨hrg1.same
      ((hgr.block B (by have := HB3.out.size; have := hrg1.lt.1; omega) (fun e => by have := R_base HU1.out B e.symm; have := HBR.out; omega)).trans (HB3.out.block B hrg1.lt.1))
      ((hgr.block R0 (by have := HB3.out.size; have := hrg1.lt.2; omega) (fun e => by have := R_base HU1.out R0 e.symm; omega)).trans (HB3.out.block R0 hrg1.lt.2))⟩
     have HW5 := Aside0.mk (grown_on hgr (below_more HW1.out HB3.out) (fun k e => by have := R_base HU1.out k e; have := HSB.out; have := HBR.out; omega))
     have HML := Aside0.mk HRG.out.left_eq
     clear hrun hR' hgr hbx hrg1 hlt1 hg1 HU HRG hs1
     go_wp2_with (at_builtin; refine wpList_append_eq rfl (.tmp 82) (.tmp 84) 22 rfl rfl rfl HRUN.out ?_)
     go_roundw
     case rel => exact ⟨_, left', HRG5, HR5, HW5⟩
     case measure => rw [HRG5.out.left_eq, HML.out]; exact HLT1.out
end Go.Proofs.YtdheokololpnbaaGreatDoor.PWalk
end
section
namespace Go.Proofs.YtdheokololpnbaaGreatDoor.PWalk
open Go.RowKit Go.Proofs.YtdheokololpnbaaGreatDoorW.PrintWords Go.Proofs.YtdheokololpnbaaGreatDoorW.PrintLast Go.Proofs.YtdheokololpnbaaGreatDoorW.PrintMore
set_option linter.unusedVariables false
set_option linter.unusedSimpArgs false
open Go.Shelf
attribute [local go_sem] Oper.semAt_some
set_option maxHeartbeats 1000000 in
set_option maxRecDepth 100000 in
theorem store_Put.calls (A0 : Option Addr) (c0 : Nat) (l : List Node) (x : Node) (r : List Node) (w : World) (hr0 : Kd.C k35 w A0 l.length l) (hc0 : l.length ≤ c0) (hl : l.length ≤ 1000000)
  (hs : storeOk l = true) (hx : nodeOk x = true) (hnew : x.f0 ∉ l.map (·.f0)) (hrp : r.Perm (l ++ [x])) (hri : Inc r) :
  Calls Tryz.prog 12 #[.slice A0 l.length c0, vNode x] w fun e w' => ∃ v : Value, e = .returned (.tuple #[v, .int .i64 0]) ∧ Kd.R k35 35 w' w.heap.size (fun _ => True) v r ∧ Below w.heap.size w w' := by
 have HR := Aside0.mk hr0
 have HC := Aside0.mk hc0
 have HL := Aside0.mk hl
 have HOK : Aside0 (∀ y ∈ l ++ [x], nodeOk y = true) := ⟨fun y hy => by
  rcases List.mem_append.1 hy with h | h
  ·
   exact (store_of hs).ok y h
  ·
   rw [List.mem_singleton.1 h]; exact hx⟩
 have HND : Aside0 (((l ++ [x]).map (·.f0)).Nodup) := ⟨by
  rw [List.map_append, List.nodup_append]
  refine ⟨?_, by simp, fun a ha b hb e => ?_⟩
  ·
   rw [List.nodup_iff_pairwise_ne, List.pairwise_map]
   refine List.Pairwise.imp (fun {a b} h e => ?_) (store_of hs).inc
   rw [e, dotLt_irrefl] at h; cases h
  ·
   simp at hb; subst hb; subst e; exact hnew ha⟩
 have HRP := Aside0.mk hrp
 have HRI := Aside0.mk hri
 obtain ⟨n, Hn⟩ : ∃ n, Aside0 (l.length = n) := ⟨_, ⟨rfl⟩⟩
 have HVAL := Aside0.mk (store_Valid.calls A0 c0 l true (w.alloc (boxN x)) (Kd.C_below hr0 (below_alloc (Below.refl _ w) (boxN x))) hc0 (by unfold store_Valid.f; rw [if_pos hl, hs]))
 have HX := Aside0.mk (blk_new w (boxN x))
 have HB0 := Aside0.mk (below_alloc (Below.refl _ w) (boxN x))
 rw [Hn.out] at HVAL HR HC ⊢
 clear hr0 hc0 hs hx hnew hrp hri
 go_enter Tryz.func12, Tryz.ntmps12
 go_wp2_with fail
 refine HVAL.out.mono ?_
 rintro e V ⟨rfl, hb⟩
 have HX := Aside0.mk (blk_keep HX.out hb)
 have HB := Aside0.mk (below_more HB0.out hb)
 clear hb HVAL
 obtain ⟨x0, x1, x2, x3, x4, x5⟩ := box_cells HX.out
 have HR1 : Aside0 (Kd.C k35 (V.alloc (boxN x)) (some ⟨V.heap.size, 0, none⟩) 1 [x]) := ⟨(Kd.R_reads' (R_of_row (base := 0) (n := 1) (cap := 1) (l := [x]) rfl (Nat.zero_le _) (blk_new V (boxN x)) (Nat.le_refl _) (by decide) rfl rfl)).2.2⟩
 have HB2 := Aside0.mk (below_more (below_alloc (Below.refl _ V) (boxN x)) (below_alloc (Below.refl _ (V.alloc (boxN x))) (.cells #[.slice A0 n c0, .slice (some ⟨V.heap.size, 0, none⟩) 1 1] 22 (0, 0))))
 have hpair := blk_new (V.alloc (boxN x)) (.cells #[.slice A0 n c0, .slice (some ⟨V.heap.size, 0, none⟩) 1 1] 22 (0, 0))
 rw [World.size_alloc] at hpair
 have HCC := Aside0.mk (Concat2.calls A0 c0 l (some ⟨V.heap.size, 0, none⟩) 1 [x] (V.heap.size + 1) _ (by rw [Hn.out]; exact hpair) (by rw [Hn.out]; exact Kd.C_below HR.out (below_more HB.out HB2.out)) (Kd.C_below HR1.out (below_alloc (Below.refl _ _) _)) (by have := HL.out; simp only [List.length_cons, List.length_nil]; omega))
 clear hpair
 go_wp2_with fail
 refine HCC.out.mono ?_
 rintro e V3 ⟨v, rfl, hRv, hb⟩
 have HB3 := Aside0.mk (below_more (below_more HB.out HB2.out) hb)
 obtain ⟨A3, c3, rfl⟩ := RN.slice hRv
 obtain ⟨_, hle, hC⟩ := RN.C hRv
 have HO := Aside0.mk (store_Of.calls A3 c3 (l ++ [x]) r V3 hC hle (by have := HL.out; simp only [List.length_append, List.length_cons, List.length_nil]; omega) HOK.out HND.out HRP.out HRI.out)
 obtain ⟨m, Hm⟩ : ∃ m, Aside0 ((l ++ [x]).length = m) := ⟨_, ⟨rfl⟩⟩
 rw [Hm.out] at HO ⊢
 clear hRv hb hle hC HCC x0 x1 x2 x3 x4 x5
 go_wp2_with fail
 refine HO.out.mono ?_
 rintro e V4 ⟨v4, rfl, hR4, hb4⟩
 have HR4 := Aside0.mk (Kd.R_lower hR4 HB3.out.size)
 have HB4 := Aside0.mk (below_more HB3.out hb4)
 clear hR4 hb4 HO
 go_wp2
 go_ret2
 exact ⟨_, rfl, HR4.out, HB4.out⟩
end Go.Proofs.YtdheokololpnbaaGreatDoor.PWalk
end
section
namespace Go.Proofs.YtdheokololpnbaaGreatDoor.PWalk
open Go.RowKit Go.Proofs.YtdheokololpnbaaGreatDoorW.PrintWords Go.Proofs.YtdheokololpnbaaGreatDoorW.PrintLast Go.Proofs.YtdheokololpnbaaGreatDoorW.PrintMore
set_option linter.unusedVariables false
set_option linter.unusedSimpArgs false
open Go.Shelf
attribute [local go_sem] Oper.semAt_some
theorem findCmp_call (x : Node) (d : Dot) (w : World) : Calls Tryz.prog 39 #[vNode x, vDot d] w fun e w' => e = .returned (.int .i64 (dotCmp x.f0 d)) ∧ Below w.heap.size w w' := by
 have hB : ((w.alloc (.cells #[.int .i64 x.f0.f0, .int .i64 x.f0.f1, .int .i64 x.f1.f0, .int .i64 x.f1.f1, .int .i64 x.f2, .int .i32 x.f3] 35 (0, 0))).alloc (.cells #[.int .i64 d.f0, .int .i64 d.f1] 33 (0, 0))).heap[w.heap.size + 1]? = some (.cells #[.int .i64 d.f0, .int .i64 d.f1] 33 (0, 0)) := by
  have := blk_new (w.alloc (.cells #[.int .i64 x.f0.f0, .int .i64 x.f0.f1, .int .i64 x.f1.f0, .int .i64 x.f1.f1, .int .i64 x.f2, .int .i32 x.f3] 35 (0, 0))) (.cells #[.int .i64 d.f0, .int .i64 d.f1] 33 (0, 0))
  rwa [show (w.alloc (.cells #[.int .i64 x.f0.f0, .int .i64 x.f0.f1, .int .i64 x.f1.f0, .int .i64 x.f1.f1, .int .i64 x.f2, .int .i32 x.f3] 35 (0, 0))).heap.size = w.heap.size + 1 by simp] at this
 have hA : ((w.alloc (.cells #[.int .i64 x.f0.f0, .int .i64 x.f0.f1, .int .i64 x.f1.f0, .int .i64 x.f1.f1, .int .i64 x.f2, .int .i32 x.f3] 35 (0, 0))).alloc (.cells #[.int .i64 d.f0, .int .i64 d.f1] 33 (0, 0))).heap[w.heap.size]? = some (.cells #[.int .i64 x.f0.f0, .int .i64 x.f0.f1, .int .i64 x.f1.f0, .int .i64 x.f1.f1, .int .i64 x.f2, .int .i32 x.f3] 35 (0, 0)) :=
  blk_keep (blk_new w (.cells #[.int .i64 x.f0.f0, .int .i64 x.f0.f1, .int .i64 x.f1.f0, .int .i64 x.f1.f1, .int .i64 x.f2, .int .i32 x.f3] 35 (0, 0))) (Gr.alloc _ _).below
 have HB := Aside0.mk (below_alloc (below_alloc (Below.refl _ w) (.cells #[.int .i64 x.f0.f0, .int .i64 x.f0.f1, .int .i64 x.f1.f0, .int .i64 x.f1.f1, .int .i64 x.f2, .int .i32 x.f3] 35 (0, 0))) (.cells #[.int .i64 d.f0, .int .i64 d.f1] 33 (0, 0)))
 have a0 := (blk_cell hA 0).trans (show _ = some (Value.int .i64 x.f0.f0) from rfl)
 have a1 := (blk_cell hA 1).trans (show _ = some (Value.int .i64 x.f0.f1) from rfl)
 have b0 := (blk_cell hB 0).trans (show _ = some (Value.int .i64 d.f0) from rfl)
 have b1 := (blk_cell hB 1).trans (show _ = some (Value.int .i64 d.f1) from rfl)
 clear hA hB
 go_enter Tryz.func39, Tryz.ntmps39
 go_wp2_with fail
 refine (dotCmp_call x.f0 d _).mono ?_
 rintro e W3 ⟨rfl, hd⟩
 have hd := hd.below
 go_wp2
 go_ret
 exact ⟨rfl, below_more HB.out hd⟩
def bnrInv (w : World) (B n c : Nat) (ad : Addr) (d : Dot) (i j h : Nat) (k : Node) (z12 z13 z14 z15 z16 z17 z18 z19 z20 z21 z22 z23 u24 u25 u26 u27 u28 u29 u30 u31 u32 u33 u34 : Value) (L : Array Bool) (ac : Act) (V : World) : Prop := ∃ (l0 l1 l2 l3 l4 l5 l6 l7 : Bool), L = #[l0, l1, l2, l3, l4, l5, l6, l7] ∧ ac = { tmps := #[.slice (some ad) n c, vDot d, .func (.func 39) #[] #[], undef, .pointer (some ⟨B, 0, none⟩), undef, .int .i64 0, .bool false, .int .i64 n, .int .i64 i, .int .i64 j, .int .i64 h, z12, z13, z14, z15, z16, z17, z18, z19, z20, z21, z22, z23, selv l0 (.func (.func 39) #[] #[]) (u24), selv l1 (.slice (some ad) n c) (u25), selv l2 (.int .i64 h) (u26), selv l3 (.pointer (some (ad.add (h * 6)))) (u27), selv l4 (vNode k) (u28), selv l5 (vDot d) (u29), selv l6 (.int .i64 (dotCmp k.f0 d)) (u30), selv l7 (.bool (decide (dotCmp k.f0 d < 0))) (u31), u32, u33, u34, undef, undef, undef, undef, undef, undef, undef, undef, undef, undef, undef, undef, undef, undef], defers := [] } ∧ Aside0 (Bs w d V)
def bntInv (w : World) (B n c : Nat) (ad : Addr) (d : Dot) (q : Nat) (k : Node) (y11 y12 y13 y14 y15 y16 y17 y18 y19 y20 y21 y22 y23 y24 y25 y26 y27 y28 y29 y30 y31 y32 y33 y34 : Value) (L : Array Bool) (ac : Act) (V : World) : Prop := ∃ (l0 l1 l2 l3 l4 l5 l6 l7 l8 l9 l10 l11 l12 l13 l14 l15 : Bool), L = #[l0, l1, l2, l3, l4, l5, l6, l7, l8, l9, l10, l11, l12, l13, l14, l15] ∧ ac = { tmps := #[.slice (some ad) n c, vDot d, .func (.func 39) #[] #[], undef, .pointer (some ⟨B, 0, none⟩), undef, selv l14 (.int .i64 q) (.int .i64 0), selv l15 (.bool (dotCmp k.f0 d == 0)) (.bool false), .int .i64 n, .int .i64 q, .int .i64 q, y11, y12, y13, y14, y15, y16, y17, y18, y19, y20, y21, y22, y23, y24, y25, y26, y27, y28, y29, y30, y31, y32, y33, y34, sel l0 (.int .i64 q), sel l1 (.int .i64 q), sel l2 (.int .i64 n), sel l3 (.bool true), sel l4 (.bool true), sel l5 (.func (.func 39) #[] #[]), sel l6 (.slice (some ad) n c), sel l7 (.int .i64 q), sel l8 (.pointer (some (ad.add (q * 6)))), sel l9 (vNode k), sel l10 (vDot d), sel l11 (.int .i64 (dotCmp k.f0 d)), sel l12 (.bool (dotCmp k.f0 d == 0)), sel l13 (.bool (dotCmp k.f0 d == 0))], defers := [] } ∧ Aside0 (Bs w d V)
def bnfInv (w : World) (A : Option Addr) (B n c : Nat) (d : Dot) (y11 y12 y13 y14 y15 y16 y17 y18 y19 y20 y21 y22 y23 y24 y25 y26 y27 y28 y29 y30 y31 y32 y33 y34 : Value) (L : Array Bool) (ac : Act) (V : World) : Prop := ∃ (l0 l1 l2 l3 l4 l5 l6 l7 l8 l9 l10 l11 l12 l13 l14 l15 : Bool), L = #[l0, l1, l2, l3, l4, l5, l6, l7, l8, l9, l10, l11, l12, l13, l14, l15] ∧ ac = { tmps := #[.slice A n c, vDot d, .func (.func 39) #[] #[], undef, .pointer (some ⟨B, 0, none⟩), undef, selv l14 (.int .i64 n) (.int .i64 0), selv l15 (.bool false) (.bool false), .int .i64 n, .int .i64 n, .int .i64 n, y11, y12, y13, y14, y15, y16, y17, y18, y19, y20, y21, y22, y23, y24, y25, y26, y27, y28, y29, y30, y31, y32, y33, y34, sel l0 (.int .i64 n), sel l1 (.int .i64 n), sel l2 (.int .i64 n), sel l3 (.bool false), sel l4 (.bool false), sel l5 (undef), sel l6 (undef), sel l7 (undef), sel l8 (undef), sel l9 (undef), sel l10 (undef), sel l11 (undef), sel l12 (undef), sel l13 (.bool false)], defers := [] } ∧ Aside0 (Bs w d V)
set_option maxHeartbeats 2000000 in
set_option maxRecDepth 100000 in
theorem bsearchN_call (ll : List Node) (A : Option Addr) (n c : Nat) (d : Dot) (w : World) (ks : List Dot) (hks : ll.map (·.f0) = ks) (hs : incB ks = true) (hl : ll.length = n) (hsm : n ≤ 1000000) (he : Kd.C k35 w A n ll) :
  Calls Tryz.prog 38 #[.slice A n c, vDot d, .func (.func 39) #[] #[]] w fun e w' => e = .returned (.tuple #[.int .i64 (posK ks d), .bool (hasK ks d)]) ∧ Below w.heap.size w w' := by
 have HE := Aside0.mk he
 have HS := Aside0.mk hs
 have hn := hsm
 have hkl : ks.length = n := by rw [← hks, List.length_map, hl]
 have HKL := Aside0.mk hkl
 have HQN : Aside0 (posK ks d ≤ n) := ⟨by rw [← hkl]; exact posK_le ks d⟩
 have HG : Aside0 (∀ h, h < n → ∃ k : Node, ks[h]? = some k.f0 ∧ ll[h]? = some k) := ⟨fun h hh => by
  obtain ⟨k, hk⟩ : ∃ k, ll[h]? = some k := ⟨_, List.getElem?_eq_getElem (by omega)⟩
  exact ⟨k, by rw [← hks, List.getElem?_map, hk]; rfl, hk⟩⟩
 clear he hs hks hl hkl hsm
 obtain ⟨q, HQ⟩ : ∃ q, Aside0 (posK ks d = q) := ⟨_, ⟨rfl⟩⟩
 obtain ⟨hf, HHF⟩ : ∃ hf, Aside0 (hasK ks d = hf) := ⟨_, ⟨rfl⟩⟩
 rw [HQ.out, HHF.out]
 rw [HQ.out] at HQN
 have HB0 : Aside0 (Bs w d (w.alloc (.cells #[.int .i64 d.f0, .int .i64 d.f1] 33 (0, 0)))) := ⟨(Gr.alloc w _).below, blk_new _ _⟩
 go_enter Tryz.func38, Tryz.ntmps38
 go_wp2
 go_loopw [9, 10] (fun i j wr => ∃ i' j' : Nat, i' ≤ q ∧ q ≤ j' ∧ j' ≤ n ∧ i = .int .i64 i' ∧ j = .int .i64 j' ∧ Aside0 (Bs w d wr)) (fun i j _ => (intOf j - intOf i).toNat)
 case atStart => exact ⟨0, n, Nat.zero_le _, HQN.out, Nat.le_refl _, rfl, rfl, HB0⟩
 case round =>
  obtain ⟨i, j, hi, hj, hjn, rfl, rfl, HB⟩ := hrel
  clear HB0
  by_cases hlt : i < j
  ·
   have hlb : decide ((i : Int) < (j : Int)) = true := decide_eq_true (by omega)
   obtain ⟨h, Hh⟩ : ∃ h : Nat, h = (i + j) / 2 := ⟨_, rfl⟩
   have hm : ((i : Int) + (j : Int)) / 2 = (h : Int) := by omega
   have HH : Aside0 (h < n) := ⟨by omega⟩
   have HIJ : Aside0 (i ≤ h ∧ h < j) := ⟨by omega⟩
   clear Hh
   obtain ⟨k, hk, hkn⟩ := HG.out _ HH.out
   obtain ⟨ad, rfl, HC⟩ := node_at HE.out (Below.refl _ w) _ k hkn
   have HC := Aside0.mk HC
   have HL : Aside0 (dotLt k.f0 d = true ↔ h < q) := ⟨by rw [← HQ.out]; exact posK_iff HS.out d hk⟩
   clear hk hkn
   go_wp2_with fail
   refine AnyOrder.wp_region (by kernel_rfl) (bnrInv w w.heap.size n c ad d i j h k (.slice (some ad) n c) (.int .i64 n) (.int .i64 n) (.int .i64 i) (.int .i64 j) (.bool true) (.int .i64 i) (.int .i64 j) (.int .i64 ((i : Int) + (j : Int))) (.int .u64 ((i : Int) + (j : Int))) (.int .u64 h) (.int .i64 h) u24 u25 u26 u27 u28 u29 u30 u31 u32 u33 u34) ⟨false, false, false, false, false, false, false, false, rfl, rfl, ⟨HB.out.drew⟩⟩ ?step ?last
   case step =>
    rintro L ac V i ⟨l0, l1, l2, l3, l4, l5, l6, l7, rfl, rfl, HF⟩ hi K hK
    have h1 : i = 0 ∨ i = 1 ∨ i = 2 ∨ i = 3 ∨ i = 4 ∨ i = 5 ∨ i = 6 ∨ i = 7 := by
     have h1 := (AnyOrder.mem_ready hi).1
     clear hi hK
     change i < 8 at h1
     omega
    rcases h1 with rfl | rfl | rfl | rfl | rfl | rfl | rfl | rfl
    ·
     obtain rfl : l0 = false := (AnyOrder.mem_ready hi).2.1
     clear hi
     refine AnyOrder.wpOp_go rfl (by rfl) ?_
     go_wp2_with fail
     exact ⟨true, l1, l2, l3, l4, l5, l6, l7, rfl, rfl, HF⟩
    ·
     obtain rfl : l1 = false := (AnyOrder.mem_ready hi).2.1
     clear hi
     refine AnyOrder.wpOp_go rfl (by rfl) ?_
     go_wp2_with fail
     exact ⟨l0, true, l2, l3, l4, l5, l6, l7, rfl, rfl, HF⟩
    ·
     obtain rfl : l2 = false := (AnyOrder.mem_ready hi).2.1
     clear hi
     refine AnyOrder.wpOp_go rfl (by rfl) ?_
     go_wp2_with fail
     exact ⟨l0, l1, true, l3, l4, l5, l6, l7, rfl, rfl, HF⟩
    ·
     obtain rfl : l3 = false := (AnyOrder.mem_ready hi).2.1
     obtain rfl : l1 = true := AnyOrder.dep (q := 0) hi rfl rfl rfl
     obtain rfl : l2 = true := AnyOrder.dep (q := 1) hi rfl rfl rfl
     clear hi
     simp only [sel_true, selv_true] at hK ⊢
     have hh := HH.out
     refine AnyOrder.wpOp_go rfl (by rfl) ?_
     go_wp2_with fail
     exact ⟨l0, true, true, true, l4, l5, l6, l7, rfl, rfl, HF⟩
    ·
     obtain rfl : l4 = false := (AnyOrder.mem_ready hi).2.1
     obtain rfl : l3 = true := AnyOrder.dep (q := 0) hi rfl rfl rfl
     clear hi
     simp only [sel_true, selv_true] at hK ⊢
     obtain ⟨q0, q1, q2, q3, q4, q5⟩ := HC.out
     have e0 := pw_cell_below HF.out.below q0
     have e1 := pw_cell_below HF.out.below q1
     have e2 := pw_cell_below HF.out.below q2
     have e3 := pw_cell_below HF.out.below q3
     have e4 := pw_cell_below HF.out.below q4
     have e5 := pw_cell_below HF.out.below q5
     clear q0 q1 q2 q3 q4 q5
     refine AnyOrder.wpOp_go rfl (by rfl) ?_
     go_wp2_with fail
     exact ⟨l0, l1, l2, true, true, l5, l6, l7, rfl, rfl, HF⟩
    ·
     obtain rfl : l5 = false := (AnyOrder.mem_ready hi).2.1
     clear hi
     have d0 : V.cell? ⟨w.heap.size, 0, none⟩ = _ := (blk_cell HF.out.box 0).trans rfl
     have d1 : V.cell? ⟨w.heap.size, 1, none⟩ = _ := (blk_cell HF.out.box 1).trans rfl
     refine AnyOrder.wpOp_go rfl (by rfl) ?_
     go_wp2_with fail
     exact ⟨l0, l1, l2, l3, l4, true, l6, l7, rfl, rfl, HF⟩
    ·
     obtain rfl : l6 = false := (AnyOrder.mem_ready hi).2.1
     obtain rfl : l0 = true := AnyOrder.dep (q := 0) hi rfl rfl rfl
     obtain rfl : l4 = true := AnyOrder.dep (q := 1) hi rfl rfl rfl
     obtain rfl : l5 = true := AnyOrder.dep (q := 2) hi rfl rfl rfl
     clear hi
     simp only [sel_true, selv_true] at hK ⊢
     refine AnyOrder.wpOp_go rfl (by rfl) ?_
     go_wp2_with fail
     refine (findCmp_call k d V).mono ?_
     rintro e V' ⟨rfl, hb⟩
     exact hK _ _ ⟨true, l1, l2, l3, true, true, true, l7, rfl, rfl, ⟨HF.out.more hb⟩⟩
    ·
     obtain rfl : l7 = false := (AnyOrder.mem_ready hi).2.1
     obtain rfl : l6 = true := AnyOrder.dep (q := 0) hi rfl rfl rfl
     clear hi
     simp only [sel_true, selv_true] at hK ⊢
     refine AnyOrder.wpOp_go rfl (by rfl) ?_
     go_wp2_with fail
     exact ⟨l0, l1, l2, l3, l4, l5, true, true, rfl, rfl, HF⟩
   case last =>
    rintro L ac V ⟨l0, l1, l2, l3, l4, l5, l6, l7, rfl, rfl, HF⟩ hr
    have hall := AnyOrder.all_listed rfl (by kernel_rfl) hr
    clear hr
    obtain rfl : l0 = true := hall 0 (by decide)
    obtain rfl : l1 = true := hall 1 (by decide)
    obtain rfl : l2 = true := hall 2 (by decide)
    obtain rfl : l3 = true := hall 3 (by decide)
    obtain rfl : l4 = true := hall 4 (by decide)
    obtain rfl : l5 = true := hall 5 (by decide)
    obtain rfl : l6 = true := hall 6 (by decide)
    obtain rfl : l7 = true := hall 7 (by decide)
    clear hall
    simp only [sel_true, selv_true]
    clear hm
    rw [dotCmp_lt]
    cases hd : dotLt k.f0 d with
    | true =>
     have hw1 : wrap64 ((h : Int) + 1) = ((h + 1 : Nat) : Int) := by unfold wrap64; have := HH.out; omega
     have h2 := HL.out.1 hd
     have HIJ2 := HIJ.out
     clear hd
     go_wp2_with fail
     refine ⟨⟨h + 1, j, by omega, hj, hjn, by (first | rfl | (rw [hw1])), rfl, HF⟩, ?_⟩
     simp [intOf]; omega
    | false =>
     have h2 : ¬ h < q := fun e => by have := HL.out.2 e; rw [hd] at this; cases this
     have HIJ2 := HIJ.out
     clear hd
     go_wp2_with fail
     refine ⟨⟨i, h, hi, by omega, by omega, rfl, rfl, HF⟩, ?_⟩
     simp [intOf]; omega
  ·
   obtain rfl : q = i := by omega
   obtain rfl : q = j := by omega
   have hlb : decide ((q : Int) < (q : Int)) = false := decide_eq_false (by omega)
   by_cases hq : q < n
   ·
    have HH := Aside0.mk hq
    obtain ⟨k, hk, hkn⟩ := HG.out _ HH.out
    obtain ⟨ad, rfl, HC⟩ := node_at HE.out (Below.refl _ w) _ k hkn
    have HC := Aside0.mk HC
    have HR : Aside0 (hf = (dotCmp k.f0 d == 0)) := ⟨by rw [← HHF.out, hasK, HQ.out, hk, dotCmp_eq]; simp⟩
    clear hk hkn
    go_wp2_with fail
    refine AnyOrder.wp_region (by kernel_rfl) (bntInv w w.heap.size n c ad d q k u11 (.slice (some ad) n c) (.int .i64 n) (.int .i64 n) (.int .i64 q) (.int .i64 q) (.bool false) u18 u19 u20 u21 u22 u23 u24 u25 u26 u27 u28 u29 u30 u31 u32 u33 u34) ⟨false, false, false, false, false, false, false, false, false, false, false, false, false, false, false, false, rfl, rfl, ⟨HB.out.drew⟩⟩ ?step ?last
    case step =>
     rintro L ac V i ⟨l0, l1, l2, l3, l4, l5, l6, l7, l8, l9, l10, l11, l12, l13, l14, l15, rfl, rfl, HF⟩ hi K hK
     have h1 : i = 0 ∨ i = 1 ∨ i = 2 ∨ i = 3 ∨ i = 4 ∨ i = 5 ∨ i = 6 ∨ i = 7 ∨ i = 8 ∨ i = 9 ∨ i = 10 ∨ i = 11 ∨ i = 12 ∨ i = 13 ∨ i = 14 ∨ i = 15 := by
      have h1 := (AnyOrder.mem_ready hi).1
      clear hi hK
      change i < 16 at h1
      omega
     rcases h1 with rfl | rfl | rfl | rfl | rfl | rfl | rfl | rfl | rfl | rfl | rfl | rfl | rfl | rfl | rfl | rfl
     ·
      obtain rfl : l0 = false := (AnyOrder.mem_ready hi).2.1
      clear hi
      refine AnyOrder.wpOp_go rfl (by rfl) ?_
      go_wp2_with fail
      exact ⟨true, l1, l2, l3, l4, l5, l6, l7, l8, l9, l10, l11, l12, l13, l14, l15, rfl, rfl, HF⟩
     ·
      obtain rfl : l1 = false := (AnyOrder.mem_ready hi).2.1
      clear hi
      refine AnyOrder.wpOp_go rfl (by rfl) ?_
      go_wp2_with fail
      exact ⟨l0, true, l2, l3, l4, l5, l6, l7, l8, l9, l10, l11, l12, l13, l14, l15, rfl, rfl, HF⟩
     ·
      obtain rfl : l2 = false := (AnyOrder.mem_ready hi).2.1
      clear hi
      refine AnyOrder.wpOp_go rfl (by rfl) ?_
      go_wp2_with fail
      exact ⟨l0, l1, true, l3, l4, l5, l6, l7, l8, l9, l10, l11, l12, l13, l14, l15, rfl, rfl, HF⟩
     ·
      obtain rfl : l3 = false := (AnyOrder.mem_ready hi).2.1
      obtain rfl : l1 = true := AnyOrder.dep (q := 0) hi rfl rfl rfl
      obtain rfl : l2 = true := AnyOrder.dep (q := 1) hi rfl rfl rfl
      clear hi
      simp only [sel_true, selv_true] at hK ⊢
      have hh : decide ((q : Int) < (n : Int)) = true := decide_eq_true (by have := HH.out; omega)
      refine AnyOrder.wpOp_go rfl (by rfl) ?_
      go_wp2_with fail
      exact ⟨l0, true, true, true, l4, l5, l6, l7, l8, l9, l10, l11, l12, l13, l14, l15, rfl, rfl, HF⟩
     ·
      obtain rfl : l4 = false := (AnyOrder.mem_ready hi).2.1
      obtain rfl : l3 = true := AnyOrder.dep (q := 0) hi rfl rfl rfl
      clear hi
      simp only [sel_true, selv_true] at hK ⊢
      refine AnyOrder.wpOp_go rfl (by rfl) ?_
      go_wp2_with fail
      exact ⟨l0, l1, l2, true, true, l5, l6, l7, l8, l9, l10, l11, l12, l13, l14, l15, rfl, rfl, HF⟩
     ·
      obtain rfl : l5 = false := (AnyOrder.mem_ready hi).2.1
      obtain rfl : l4 = true := AnyOrder.dep (q := 0) hi rfl rfl rfl
      clear hi
      simp only [sel_true, selv_true] at hK ⊢
      refine AnyOrder.wpOp_go rfl (by rfl) ?_
      go_wp2_with fail
      exact ⟨l0, l1, l2, l3, true, true, l6, l7, l8, l9, l10, l11, l12, l13, l14, l15, rfl, rfl, HF⟩
     ·
      obtain rfl : l6 = false := (AnyOrder.mem_ready hi).2.1
      obtain rfl : l4 = true := AnyOrder.dep (q := 0) hi rfl rfl rfl
      clear hi
      simp only [sel_true, selv_true] at hK ⊢
      refine AnyOrder.wpOp_go rfl (by rfl) ?_
      go_wp2_with fail
      exact ⟨l0, l1, l2, l3, true, l5, true, l7, l8, l9, l10, l11, l12, l13, l14, l15, rfl, rfl, HF⟩
     ·
      obtain rfl : l7 = false := (AnyOrder.mem_ready hi).2.1
      obtain rfl : l4 = true := AnyOrder.dep (q := 0) hi rfl rfl rfl
      clear hi
      simp only [sel_true, selv_true] at hK ⊢
      refine AnyOrder.wpOp_go rfl (by rfl) ?_
      go_wp2_with fail
      exact ⟨l0, l1, l2, l3, true, l5, l6, true, l8, l9, l10, l11, l12, l13, l14, l15, rfl, rfl, HF⟩
     ·
      obtain rfl : l8 = false := (AnyOrder.mem_ready hi).2.1
      obtain rfl : l6 = true := AnyOrder.dep (q := 0) hi rfl rfl rfl
      obtain rfl : l7 = true := AnyOrder.dep (q := 1) hi rfl rfl rfl
      obtain rfl : l4 = true := AnyOrder.dep (q := 2) hi rfl rfl rfl
      clear hi
      simp only [sel_true, selv_true] at hK ⊢
      have hh := HH.out
      refine AnyOrder.wpOp_go rfl (by rfl) ?_
      go_wp2_with fail
      exact ⟨l0, l1, l2, l3, true, l5, true, true, true, l9, l10, l11, l12, l13, l14, l15, rfl, rfl, HF⟩
     ·
      obtain rfl : l9 = false := (AnyOrder.mem_ready hi).2.1
      obtain rfl : l8 = true := AnyOrder.dep (q := 0) hi rfl rfl rfl
      obtain rfl : l4 = true := AnyOrder.dep (q := 1) hi rfl rfl rfl
      clear hi
      simp only [sel_true, selv_true] at hK ⊢
      obtain ⟨q0, q1, q2, q3, q4, q5⟩ := HC.out
      have e0 := pw_cell_below HF.out.below q0
      have e1 := pw_cell_below HF.out.below q1
      have e2 := pw_cell_below HF.out.below q2
      have e3 := pw_cell_below HF.out.below q3
      have e4 := pw_cell_below HF.out.below q4
      have e5 := pw_cell_below HF.out.below q5
      clear q0 q1 q2 q3 q4 q5
      refine AnyOrder.wpOp_go rfl (by rfl) ?_
      go_wp2_with fail
      exact ⟨l0, l1, l2, l3, true, l5, l6, l7, true, true, l10, l11, l12, l13, l14, l15, rfl, rfl, HF⟩
     ·
      obtain rfl : l10 = false := (AnyOrder.mem_ready hi).2.1
      obtain rfl : l4 = true := AnyOrder.dep (q := 0) hi rfl rfl rfl
      clear hi
      simp only [sel_true, selv_true] at hK ⊢
      have d0 : V.cell? ⟨w.heap.size, 0, none⟩ = _ := (blk_cell HF.out.box 0).trans rfl
      have d1 : V.cell? ⟨w.heap.size, 1, none⟩ = _ := (blk_cell HF.out.box 1).trans rfl
      refine AnyOrder.wpOp_go rfl (by rfl) ?_
      go_wp2_with fail
      exact ⟨l0, l1, l2, l3, true, l5, l6, l7, l8, l9, true, l11, l12, l13, l14, l15, rfl, rfl, HF⟩
     ·
      obtain rfl : l11 = false := (AnyOrder.mem_ready hi).2.1
      obtain rfl : l5 = true := AnyOrder.dep (q := 0) hi rfl rfl rfl
      obtain rfl : l9 = true := AnyOrder.dep (q := 1) hi rfl rfl rfl
      obtain rfl : l10 = true := AnyOrder.dep (q := 2) hi rfl rfl rfl
      obtain rfl : l4 = true := AnyOrder.dep (q := 3) hi rfl rfl rfl
      clear hi
      simp only [sel_true, selv_true] at hK ⊢
      refine AnyOrder.wpOp_go rfl (by rfl) ?_
      go_wp2_with fail
      refine (findCmp_call k d V).mono ?_
      rintro e V' ⟨rfl, hb⟩
      exact hK _ _ ⟨l0, l1, l2, l3, true, true, l6, l7, l8, true, true, true, l12, l13, l14, l15, rfl, rfl, ⟨HF.out.more hb⟩⟩
     ·
      obtain rfl : l12 = false := (AnyOrder.mem_ready hi).2.1
      obtain rfl : l11 = true := AnyOrder.dep (q := 0) hi rfl rfl rfl
      obtain rfl : l4 = true := AnyOrder.dep (q := 1) hi rfl rfl rfl
      clear hi
      simp only [sel_true, selv_true] at hK ⊢
      refine AnyOrder.wpOp_go rfl (by rfl) ?_
      go_wp2_with fail
      exact ⟨l0, l1, l2, l3, true, l5, l6, l7, l8, l9, l10, true, true, l13, l14, l15, rfl, rfl, HF⟩
     ·
      obtain rfl : l13 = false := (AnyOrder.mem_ready hi).2.1
      obtain rfl : l4 = true := AnyOrder.dep (q := 0) hi rfl rfl rfl
      obtain rfl : l12 = true := AnyOrder.dep (q := 1) hi rfl rfl rfl
      clear hi
      simp only [sel_true, selv_true] at hK ⊢
      refine AnyOrder.wpOp_go rfl (by rfl) ?_
      go_wp2_with fail
      exact ⟨l0, l1, l2, l3, true, l5, l6, l7, l8, l9, l10, l11, true, true, l14, l15, rfl, rfl, HF⟩
     ·
      obtain rfl : l14 = false := (AnyOrder.mem_ready hi).2.1
      obtain rfl : l0 = true := AnyOrder.dep (q := 0) hi rfl rfl rfl
      obtain rfl : l11 = true := AnyOrder.dep (q := 1) hi rfl rfl rfl
      clear hi
      simp only [sel_true, selv_true] at hK ⊢
      refine AnyOrder.wpOp_go rfl (by rfl) ?_
      go_wp2_with fail
      exact ⟨true, l1, l2, l3, l4, l5, l6, l7, l8, l9, l10, true, l12, l13, true, l15, rfl, rfl, HF⟩
     ·
      obtain rfl : l15 = false := (AnyOrder.mem_ready hi).2.1
      obtain rfl : l13 = true := AnyOrder.dep (q := 0) hi rfl rfl rfl
      obtain rfl : l14 = true := AnyOrder.dep (q := 1) hi rfl rfl rfl
      obtain rfl : l0 = true := AnyOrder.dep (q := 2) hi rfl rfl rfl
      obtain rfl : l1 = true := AnyOrder.dep (q := 3) hi rfl rfl rfl
      obtain rfl : l2 = true := AnyOrder.dep (q := 4) hi rfl rfl rfl
      obtain rfl : l3 = true := AnyOrder.dep (q := 5) hi rfl rfl rfl
      obtain rfl : l4 = true := AnyOrder.dep (q := 6) hi rfl rfl rfl
      obtain rfl : l5 = true := AnyOrder.dep (q := 7) hi rfl rfl rfl
      obtain rfl : l6 = true := AnyOrder.dep (q := 8) hi rfl rfl rfl
      obtain rfl : l7 = true := AnyOrder.dep (q := 9) hi rfl rfl rfl
      obtain rfl : l8 = true := AnyOrder.dep (q := 10) hi rfl rfl rfl
      obtain rfl : l9 = true := AnyOrder.dep (q := 11) hi rfl rfl rfl
      obtain rfl : l10 = true := AnyOrder.dep (q := 12) hi rfl rfl rfl
      obtain rfl : l11 = true := AnyOrder.dep (q := 13) hi rfl rfl rfl
      obtain rfl : l12 = true := AnyOrder.dep (q := 14) hi rfl rfl rfl
      clear hi
      simp only [sel_true, selv_true] at hK ⊢
      refine AnyOrder.wpOp_go rfl (by rfl) ?_
      go_wp2_with fail
      exact ⟨true, true, true, true, true, true, true, true, true, true, true, true, true, true, true, true, rfl, rfl, HF⟩
    case last =>
     rintro L ac V ⟨l0, l1, l2, l3, l4, l5, l6, l7, l8, l9, l10, l11, l12, l13, l14, l15, rfl, rfl, HF⟩ hr
     have hall := AnyOrder.all_listed rfl (by kernel_rfl) hr
     clear hr
     obtain rfl : l0 = true := hall 0 (by decide)
     obtain rfl : l1 = true := hall 1 (by decide)
     obtain rfl : l2 = true := hall 2 (by decide)
     obtain rfl : l3 = true := hall 3 (by decide)
     obtain rfl : l4 = true := hall 4 (by decide)
     obtain rfl : l5 = true := hall 5 (by decide)
     obtain rfl : l6 = true := hall 6 (by decide)
     obtain rfl : l7 = true := hall 7 (by decide)
     obtain rfl : l8 = true := hall 8 (by decide)
     obtain rfl : l9 = true := hall 9 (by decide)
     obtain rfl : l10 = true := hall 10 (by decide)
     obtain rfl : l11 = true := hall 11 (by decide)
     obtain rfl : l12 = true := hall 12 (by decide)
     obtain rfl : l13 = true := hall 13 (by decide)
     obtain rfl : l14 = true := hall 14 (by decide)
     obtain rfl : l15 = true := hall 15 (by decide)
     clear hall
     simp only [sel_true, selv_true]
     go_wp2
     refine bodyPost_ret (results_tmp2 rfl _ _ _) rfl ?_
     exact ⟨by rw [HR.out]; rfl, HF.out.below⟩
   ·
    obtain rfl : n = q := by omega
    have HR : Aside0 (hf = false) := ⟨by rw [← HHF.out, hasK, HQ.out, List.getElem?_eq_none (by rw [HKL.out]; exact Nat.le_refl _)]; rfl⟩
    go_wp2_with fail
    refine AnyOrder.wp_region (by kernel_rfl) (bnfInv w A w.heap.size n c d u11 (.slice A n c) (.int .i64 n) (.int .i64 n) (.int .i64 n) (.int .i64 n) (.bool false) u18 u19 u20 u21 u22 u23 u24 u25 u26 u27 u28 u29 u30 u31 u32 u33 u34) ⟨false, false, false, false, false, false, false, false, false, false, false, false, false, false, false, false, rfl, rfl, ⟨HB.out.drew⟩⟩ ?step ?last
    case step =>
     rintro L ac V i ⟨l0, l1, l2, l3, l4, l5, l6, l7, l8, l9, l10, l11, l12, l13, l14, l15, rfl, rfl, HF⟩ hi K hK
     have h1 : i = 0 ∨ i = 1 ∨ i = 2 ∨ i = 3 ∨ i = 4 ∨ i = 5 ∨ i = 6 ∨ i = 7 ∨ i = 8 ∨ i = 9 ∨ i = 10 ∨ i = 11 ∨ i = 12 ∨ i = 13 ∨ i = 14 ∨ i = 15 := by
      have h1 := (AnyOrder.mem_ready hi).1
      clear hi hK
      change i < 16 at h1
      omega
     rcases h1 with rfl | rfl | rfl | rfl | rfl | rfl | rfl | rfl | rfl | rfl | rfl | rfl | rfl | rfl | rfl | rfl
     ·
      obtain rfl : l0 = false := (AnyOrder.mem_ready hi).2.1
      clear hi
      refine AnyOrder.wpOp_go rfl (by rfl) ?_
      go_wp2_with fail
      exact ⟨true, l1, l2, l3, l4, l5, l6, l7, l8, l9, l10, l11, l12, l13, l14, l15, rfl, rfl, HF⟩
     ·
      obtain rfl : l1 = false := (AnyOrder.mem_ready hi).2.1
      clear hi
      refine AnyOrder.wpOp_go rfl (by rfl) ?_
      go_wp2_with fail
      exact ⟨l0, true, l2, l3, l4, l5, l6, l7, l8, l9, l10, l11, l12, l13, l14, l15, rfl, rfl, HF⟩
     ·
      obtain rfl : l2 = false := (AnyOrder.mem_ready hi).2.1
      clear hi
      refine AnyOrder.wpOp_go rfl (by rfl) ?_
      go_wp2_with fail
      exact ⟨l0, l1, true, l3, l4, l5, l6, l7, l8, l9, l10, l11, l12, l13, l14, l15, rfl, rfl, HF⟩
     ·
      obtain rfl : l3 = false := (AnyOrder.mem_ready hi).2.1
      obtain rfl : l1 = true := AnyOrder.dep (q := 0) hi rfl rfl rfl
      obtain rfl : l2 = true := AnyOrder.dep (q := 1) hi rfl rfl rfl
      clear hi
      simp only [sel_true, selv_true] at hK ⊢
      have hh : decide ((n : Int) < (n : Int)) = false := decide_eq_false (by omega)
      refine AnyOrder.wpOp_go rfl (by rfl) ?_
      go_wp2_with fail
      exact ⟨l0, true, true, true, l4, l5, l6, l7, l8, l9, l10, l11, l12, l13, l14, l15, rfl, rfl, HF⟩
     ·
      obtain rfl : l4 = false := (AnyOrder.mem_ready hi).2.1
      obtain rfl : l3 = true := AnyOrder.dep (q := 0) hi rfl rfl rfl
      clear hi
      simp only [sel_true, selv_true] at hK ⊢
      refine AnyOrder.wpOp_go rfl (by rfl) ?_
      go_wp2_with fail
      exact ⟨l0, l1, l2, true, true, l5, l6, l7, l8, l9, l10, l11, l12, l13, l14, l15, rfl, rfl, HF⟩
     ·
      obtain rfl : l5 = false := (AnyOrder.mem_ready hi).2.1
      obtain rfl : l4 = true := AnyOrder.dep (q := 0) hi rfl rfl rfl
      clear hi
      simp only [sel_true, selv_true] at hK ⊢
      refine AnyOrder.wpOp_out rfl (by rfl) ?_
      exact hK _ _ ⟨l0, l1, l2, l3, true, true, l6, l7, l8, l9, l10, l11, l12, l13, l14, l15, rfl, rfl, HF⟩
     ·
      obtain rfl : l6 = false := (AnyOrder.mem_ready hi).2.1
      obtain rfl : l4 = true := AnyOrder.dep (q := 0) hi rfl rfl rfl
      clear hi
      simp only [sel_true, selv_true] at hK ⊢
      refine AnyOrder.wpOp_out rfl (by rfl) ?_
      exact hK _ _ ⟨l0, l1, l2, l3, true, l5, true, l7, l8, l9, l10, l11, l12, l13, l14, l15, rfl, rfl, HF⟩
     ·
      obtain rfl : l7 = false := (AnyOrder.mem_ready hi).2.1
      obtain rfl : l4 = true := AnyOrder.dep (q := 0) hi rfl rfl rfl
      clear hi
      simp only [sel_true, selv_true] at hK ⊢
      refine AnyOrder.wpOp_out rfl (by rfl) ?_
      exact hK _ _ ⟨l0, l1, l2, l3, true, l5, l6, true, l8, l9, l10, l11, l12, l13, l14, l15, rfl, rfl, HF⟩
     ·
      obtain rfl : l8 = false := (AnyOrder.mem_ready hi).2.1
      obtain rfl : l4 = true := AnyOrder.dep (q := 2) hi rfl rfl rfl
      clear hi
      simp only [sel_true, selv_true] at hK ⊢
      refine AnyOrder.wpOp_out rfl (by rfl) ?_
      exact hK _ _ ⟨l0, l1, l2, l3, true, l5, l6, l7, true, l9, l10, l11, l12, l13, l14, l15, rfl, rfl, HF⟩
     ·
      obtain rfl : l9 = false := (AnyOrder.mem_ready hi).2.1
      obtain rfl : l4 = true := AnyOrder.dep (q := 1) hi rfl rfl rfl
      clear hi
      simp only [sel_true, selv_true] at hK ⊢
      refine AnyOrder.wpOp_out rfl (by rfl) ?_
      exact hK _ _ ⟨l0, l1, l2, l3, true, l5, l6, l7, l8, true, l10, l11, l12, l13, l14, l15, rfl, rfl, HF⟩
     ·
      obtain rfl : l10 = false := (AnyOrder.mem_ready hi).2.1
      obtain rfl : l4 = true := AnyOrder.dep (q := 0) hi rfl rfl rfl
      clear hi
      simp only [sel_true, selv_true] at hK ⊢
      refine AnyOrder.wpOp_out rfl (by rfl) ?_
      exact hK _ _ ⟨l0, l1, l2, l3, true, l5, l6, l7, l8, l9, true, l11, l12, l13, l14, l15, rfl, rfl, HF⟩
     ·
      obtain rfl : l11 = false := (AnyOrder.mem_ready hi).2.1
      obtain rfl : l4 = true := AnyOrder.dep (q := 3) hi rfl rfl rfl
      clear hi
      simp only [sel_true, selv_true] at hK ⊢
      refine AnyOrder.wpOp_out rfl (by rfl) ?_
      exact hK _ _ ⟨l0, l1, l2, l3, true, l5, l6, l7, l8, l9, l10, true, l12, l13, l14, l15, rfl, rfl, HF⟩
     ·
      obtain rfl : l12 = false := (AnyOrder.mem_ready hi).2.1
      obtain rfl : l4 = true := AnyOrder.dep (q := 1) hi rfl rfl rfl
      clear hi
      simp only [sel_true, selv_true] at hK ⊢
      refine AnyOrder.wpOp_out rfl (by rfl) ?_
      exact hK _ _ ⟨l0, l1, l2, l3, true, l5, l6, l7, l8, l9, l10, l11, true, l13, l14, l15, rfl, rfl, HF⟩
     ·
      obtain rfl : l13 = false := (AnyOrder.mem_ready hi).2.1
      obtain rfl : l4 = true := AnyOrder.dep (q := 0) hi rfl rfl rfl
      obtain rfl : l12 = true := AnyOrder.dep (q := 1) hi rfl rfl rfl
      clear hi
      simp only [sel_true, selv_true] at hK ⊢
      refine AnyOrder.wpOp_go rfl (by rfl) ?_
      go_wp2_with fail
      exact ⟨l0, l1, l2, l3, true, l5, l6, l7, l8, l9, l10, l11, true, true, l14, l15, rfl, rfl, HF⟩
     ·
      obtain rfl : l14 = false := (AnyOrder.mem_ready hi).2.1
      obtain rfl : l0 = true := AnyOrder.dep (q := 0) hi rfl rfl rfl
      obtain rfl : l11 = true := AnyOrder.dep (q := 1) hi rfl rfl rfl
      clear hi
      simp only [sel_true, selv_true] at hK ⊢
      refine AnyOrder.wpOp_go rfl (by rfl) ?_
      go_wp2_with fail
      exact ⟨true, l1, l2, l3, l4, l5, l6, l7, l8, l9, l10, true, l12, l13, true, l15, rfl, rfl, HF⟩
     ·
      obtain rfl : l15 = false := (AnyOrder.mem_ready hi).2.1
      obtain rfl : l13 = true := AnyOrder.dep (q := 0) hi rfl rfl rfl
      obtain rfl : l14 = true := AnyOrder.dep (q := 1) hi rfl rfl rfl
      obtain rfl : l0 = true := AnyOrder.dep (q := 2) hi rfl rfl rfl
      obtain rfl : l1 = true := AnyOrder.dep (q := 3) hi rfl rfl rfl
      obtain rfl : l2 = true := AnyOrder.dep (q := 4) hi rfl rfl rfl
      obtain rfl : l3 = true := AnyOrder.dep (q := 5) hi rfl rfl rfl
      obtain rfl : l4 = true := AnyOrder.dep (q := 6) hi rfl rfl rfl
      obtain rfl : l5 = true := AnyOrder.dep (q := 7) hi rfl rfl rfl
      obtain rfl : l6 = true := AnyOrder.dep (q := 8) hi rfl rfl rfl
      obtain rfl : l7 = true := AnyOrder.dep (q := 9) hi rfl rfl rfl
      obtain rfl : l8 = true := AnyOrder.dep (q := 10) hi rfl rfl rfl
      obtain rfl : l9 = true := AnyOrder.dep (q := 11) hi rfl rfl rfl
      obtain rfl : l10 = true := AnyOrder.dep (q := 12) hi rfl rfl rfl
      obtain rfl : l11 = true := AnyOrder.dep (q := 13) hi rfl rfl rfl
      obtain rfl : l12 = true := AnyOrder.dep (q := 14) hi rfl rfl rfl
      clear hi
      simp only [sel_true, selv_true] at hK ⊢
      refine AnyOrder.wpOp_go rfl (by rfl) ?_
      go_wp2_with fail
      exact ⟨true, true, true, true, true, true, true, true, true, true, true, true, true, true, true, true, rfl, rfl, HF⟩
    case last =>
     rintro L ac V ⟨l0, l1, l2, l3, l4, l5, l6, l7, l8, l9, l10, l11, l12, l13, l14, l15, rfl, rfl, HF⟩ hr
     have hall := AnyOrder.all_listed rfl (by kernel_rfl) hr
     clear hr
     obtain rfl : l0 = true := hall 0 (by decide)
     obtain rfl : l1 = true := hall 1 (by decide)
     obtain rfl : l2 = true := hall 2 (by decide)
     obtain rfl : l3 = true := hall 3 (by decide)
     obtain rfl : l4 = true := hall 4 (by decide)
     obtain rfl : l5 = true := hall 5 (by decide)
     obtain rfl : l6 = true := hall 6 (by decide)
     obtain rfl : l7 = true := hall 7 (by decide)
     obtain rfl : l8 = true := hall 8 (by decide)
     obtain rfl : l9 = true := hall 9 (by decide)
     obtain rfl : l10 = true := hall 10 (by decide)
     obtain rfl : l11 = true := hall 11 (by decide)
     obtain rfl : l12 = true := hall 12 (by decide)
     obtain rfl : l13 = true := hall 13 (by decide)
     obtain rfl : l14 = true := hall 14 (by decide)
     obtain rfl : l15 = true := hall 15 (by decide)
     clear hall
     simp only [sel_true, selv_true]
     go_wp2
     refine bodyPost_ret (results_tmp2 rfl _ _ _) rfl ?_
     exact ⟨by rw [HR.out]; rfl, HF.out.below⟩
end Go.Proofs.YtdheokololpnbaaGreatDoor.PWalk
end
section
namespace Go.Proofs.YtdheokololpnbaaGreatDoor.PWalk
open Go.RowKit Go.Proofs.YtdheokololpnbaaGreatDoorW.PrintWords Go.Proofs.YtdheokololpnbaaGreatDoorW.PrintLast Go.Proofs.YtdheokololpnbaaGreatDoorW.PrintMore
set_option linter.unusedVariables false
set_option linter.unusedSimpArgs false
open Go.Shelf
attribute [local go_sem] Oper.semAt_some
set_option maxHeartbeats 2000000 in
set_option maxRecDepth 100000 in
theorem storefind_call (ll : List Node) (A : Option Addr) (n c : Nat) (d : Dot) (w : World) (ks : List Dot) (hks : ll.map (·.f0) = ks) (hs : incB ks = true) (hl : ll.length = n) (hsm : n ≤ 1000000) (he : Kd.C k35 w A n ll) :
  Calls Tryz.prog 20 #[.slice A n c, vDot d] w fun e w' => e = .returned (.tuple #[.int .i64 (posK ks d), .bool (hasK ks d)]) ∧ Below w.heap.size w w' := by
 have HX := Aside0.mk (blk_new w (dotC d))
 have HB := Aside0.mk (Gr.alloc w (dotC d)).below
 have HBS := Aside0.mk (bsearchN_call ll A n c d (w.alloc (dotC d)) ks hks hs hl hsm (Kd.C_below he HB.out))
 obtain ⟨q, HQ⟩ : ∃ q, Aside0 (posK ks d = q) := ⟨_, ⟨rfl⟩⟩
 obtain ⟨hf, HHF⟩ : ∃ hf, Aside0 (hasK ks d = hf) := ⟨_, ⟨rfl⟩⟩
 rw [HQ.out, HHF.out] at HBS ⊢
 clear hks hs hl hsm he
 have x0 : (w.alloc (dotC d)).cell? ⟨w.heap.size, 0, none⟩ = _ := (blk_cell HX.out 0).trans rfl
 have x1 : (w.alloc (dotC d)).cell? ⟨w.heap.size, 1, none⟩ = _ := (blk_cell HX.out 1).trans rfl
 go_enter Tryz.func20, Tryz.ntmps20
 go_wp2_with fail
 refine HBS.out.mono ?_
 rintro e V ⟨rfl, hb⟩
 have HB := Aside0.mk (below_more HB.out hb)
 clear hb x0 x1
 go_wp2
 refine bodyPost_ret (results_tmp2 rfl _ _ _) rfl ?_
 exact ⟨rfl, HB.out⟩
end Go.Proofs.YtdheokololpnbaaGreatDoor.PWalk
end
section
namespace Go.Proofs.YtdheokololpnbaaGreatDoor.PWalk
open Go.RowKit Go.Proofs.YtdheokololpnbaaGreatDoorW.PrintWords Go.Proofs.YtdheokololpnbaaGreatDoorW.PrintLast Go.Proofs.YtdheokololpnbaaGreatDoorW.PrintMore
set_option linter.unusedVariables false
set_option linter.unusedSimpArgs false
open Go.Shelf
attribute [local go_sem] Oper.semAt_some
theorem findWay_some {d : Dot} : ∀ (L : List (Nat × Node)) (P : List Dot), (findWay d L P).isSome = true ↔ d ∈ dts L
 | [], P => by simp [findWay, dts]
 | p :: L, P => by
  rw [findWay]
  by_cases h : p.2.f0 = d
  ·
   rw [if_pos h]; simp [dts, h]
  ·
   rw [if_neg h, findWay_some L]
   unfold dts
   rw [List.map_cons, List.mem_cons]
   exact ⟨.inr, fun h2 => h2.resolve_left (fun e => h e.symm)⟩
theorem reach_iff {l : List Node} (hs : Store l) {d : Dot} (hd : d ≠ ⟨0, 0⟩) : d ∈ dts (ordOf l) ↔ (pathOf l d).isSome = true := by
 rw [← findWay_is hs hd]; exact (findWay_some _ _).symm
set_option maxHeartbeats 1000000 in
set_option maxRecDepth 100000 in
theorem setD_call (A0 : Option Addr) (n c0 : Nat) (xs : List Dot) (w : World) (hn : xs.length = n) (hr0 : Kd.C k33 w A0 n xs) (hl : n ≤ 1000000) (hnd : xs.Nodup) :
  Calls Tryz.prog 21 #[.slice A0 n c0] w fun e w' => ∃ v ys, e = .returned v ∧ RD w' w.heap.size v ys ∧ incB ys = true ∧ ys.Perm xs ∧ Below w.heap.size w w' := by
 have HCL := CloneDot.calls A0 c0 xs w (by rw [hn]; exact hr0) (by rw [hn]; exact hl)
 rw [hn] at HCL
 have HCL := Aside0.mk HCL
 have HND := Aside0.mk hnd
 have Hn := Aside0.mk hn
 have HL := Aside0.mk hl
 clear hr0 hn hnd hl
 go_enter Tryz.func21, Tryz.ntmps21
 go_wp2_with fail
 refine HCL.out.mono ?_
 rintro e w1 ⟨v, rfl, hv, hb⟩
 obtain ⟨A1, c1, rfl⟩ := RD.slice hv
 rw [Hn.out] at hv ⊢
 have HSO := Aside0.mk (sortD_call w.heap.size n (.slice A1 n c1) xs w1 hv (by have h1 := Hn.out; have h2 := HL.out; omega))
 have HV := Aside0.mk hv
 have HB := Aside0.mk hb
 clear hv hb HCL
 go_wp2_with fail
 refine HSO.out.mono ?_
 rintro e w2 ⟨rfl, ys, hys, hperm, hpw, ht⟩
 have hb2 := ht.on HB.out (fun i e => (RD.block HV.out e).1)
 have hinc := adjacent_inc (hperm.nodup_iff.2 HND.out) hpw
 have hyl : ys.length = n := hperm.length_eq.trans Hn.out
 have HC : Kd.C k33 w2 A1 n ys := by
  obtain ⟨A', c', e, _, hC⟩ := Kd.R_reads hys
  cases e
  rw [hyl] at hC
  exact hC
 have HCO := Aside0.mk (compactD_call A1 n c1 ys w2 hyl HC HL.out hinc)
 have HYS := Aside0.mk hys
 have HINC := Aside0.mk hinc
 have HP := Aside0.mk hperm
 have HB2 := Aside0.mk hb2
 clear hys hperm hpw ht hb2 hinc hyl HC HSO
 go_wp2_with fail
 refine HCO.out.mono ?_
 rintro e w3 ⟨rfl, hb⟩
 have HB3 := Aside0.mk hb
 clear hb
 go_wp2
 go_ret
 exact ⟨_, ys, rfl, RD.below' HYS.out HB3.out, HINC.out, HP.out, below_more HB2.out HB3.out⟩
set_option maxHeartbeats 1000000 in
set_option maxRecDepth 100000 in
theorem minus1_call (base S : Nat) (u : Value) (ks : List Dot) (d : Dot) (w : World) (hS : w.heap[S]? = some (outD u)) (hu : RD w base u ks) (hl : ks.length ≤ 1000000) (hi : incB ks = true) :
  Calls Tryz.prog 44 #[vDot d, .pointer (some ⟨S, 0, none⟩)] w fun e w' => e = .returned (.bool (!hasK ks d)) ∧ Below w.heap.size w w' := by
 obtain ⟨A, c, rfl⟩ := RD.slice hu
 obtain ⟨n, hn⟩ : ∃ n, ks.length = n := ⟨_, rfl⟩
 rw [hn] at hS hu
 have hgr := (Gr.alloc w (dotC d)).below
 have cS : (w.alloc (dotC d)).cell? ⟨S, 0, none⟩ = _ := (blk_cell (blk_alloc hS _) 0).trans rfl
 have hK : (w.alloc (dotC d)).heap[w.heap.size]? = some (dotC d) := blk_new _ _
 have k0 : (w.alloc (dotC d)).cell? ⟨w.heap.size, 0, none⟩ = _ := (blk_cell hK 0).trans rfl
 have k1 : (w.alloc (dotC d)).cell? ⟨w.heap.size, 1, none⟩ = _ := (blk_cell hK 1).trans rfl
 have HBS := Aside0.mk (bsearchD_call ks A n c d (w.alloc (dotC d)) hi (EntsD.of (RD.below' hu hgr) hl))
 have HB := Aside0.mk hgr
 clear hS hu hl hi hgr hK hn
 go_enter Tryz.func44, Tryz.ntmps44
 go_wp2_with fail
 refine HBS.out.mono ?_
 rintro e w1 ⟨rfl, hb⟩
 have HB := Aside0.mk (below_more HB.out hb)
 clear hb k0 k1 cS
 go_wp2
 go_ret
 exact ⟨rfl, HB.out⟩
abbrev mfn (S : Nat) : Value := .func (.func 44) #[] #[.pointer (some ⟨S, 0, none⟩)]
abbrev boxCh (S : Nat) : Obj := .cells #[mfn S] 79 (0, 0)
def stay (ks xs : List Dot) (k : Nat) : List Dot := (xs.take k).filter fun d => !hasK ks d
theorem stay_succ {ks xs : List Dot} {k : Nat} {x : Dot} (h : xs[k]? = some x) : stay ks xs (k + 1) = if hasK ks x = true then stay ks xs k else stay ks xs k ++ [x] := by
 unfold stay
 rw [List.take_succ_eq_append_getElem (List.getElem?_eq_some_iff.1 h).1, (List.getElem?_eq_some_iff.1 h).2, List.filter_append]
 by_cases hk : hasK ks x = true
 ·
  rw [if_pos hk]; simp [hk]
 ·
  rw [if_neg hk]; simp [hk]
theorem stay_le (ks xs : List Dot) (k : Nat) : (stay ks xs k).length ≤ xs.length := Nat.le_trans (List.length_filter_le _ _) (List.length_take_le' _ _)
set_option maxHeartbeats 2000000 in
set_option maxRecDepth 100000 in
theorem ofD_call (base S : Nat) (u : Value) (ks : List Dot) (A0 : Option Addr) (n c0 : Nat) (xs : List Dot) (w : World) (hS : w.heap[S]? = some (outD u)) (hu : RD w base u ks) (hkl : ks.length ≤ 1000000) (hi : incB ks = true) (hn : xs.length = n) (hr0 : Kd.C k33 w A0 n xs) (hl : n ≤ 1000000) (hnd : xs.Nodup) :
  Calls Tryz.prog 46 #[.agg #[mfn S], .slice A0 n c0] w fun e w' => ∃ v ys, e = .returned v ∧ RD w' w.heap.size v ys ∧ incB ys = true ∧ ys.Perm (xs.filter fun d => !hasK ks d) ∧ Below w.heap.size w w' := by
 have HS := Aside0.mk hS
 have HU := Aside0.mk hu
 have HKL := Aside0.mk hkl
 have HI := Aside0.mk hi
 have Hn := Aside0.mk hn
 have HR := Aside0.mk hr0
 have HND := Aside0.mk hnd
 have HB0 := Aside0.mk (Gr.alloc w (boxCh S)).below
 have HC0 := Aside0.mk (blk_new w (boxCh S))
 clear hS hu hkl hi hn hr0 hnd
 go_enter Tryz.func46, Tryz.ntmps46
 go_wp2
 generalize w.alloc (boxCh S) = W1 at *
 obtain ⟨B, HBe⟩ : ∃ B, Aside0 (w.heap.size = B) := ⟨_, ⟨rfl⟩⟩
 rw [HBe.out] at HC0
 rw [show (Value.pointer (some { block := w.heap.size, off := 0 })) = .pointer (some ⟨B, 0, none⟩) by rw [HBe.out]]
 go_loopw [5, 10] (fun o i wr => ∃ (k : Nat) (A' : Option Addr) (m c' : Nat), k ≤ n ∧ o = .slice A' m c' ∧ i = .int .i64 k ∧ Aside0 ((stay ks xs k).length = m) ∧ Aside0 (RD wr w.heap.size (.slice A' m c') (stay ks xs k)) ∧ Aside0 (wr.heap[B]? = some (boxCh S)) ∧ Aside0 (Below w.heap.size w wr)) (fun o i _ => n - (intOf i).toNat)
 case atStart => exact ⟨0, none, 0, 0, Nat.zero_le _, rfl, rfl, ⟨rfl⟩, ⟨Kd.R_nil _ _ _ _ _⟩, HC0, HB0⟩
 case round =>
  obtain ⟨k, A', m, c', hk, rfl, rfl, Hm, HO, HC, HB⟩ := hrel
  by_cases hlt : k < n
  ·
   have hltb : decide ((k : Int) < (n : Int)) = true := decide_eq_true (by omega)
   obtain ⟨x, hx⟩ : ∃ x, Aside0 (xs[k]? = some x) := ⟨_, ⟨List.getElem?_eq_getElem (by have := Hn.out; omega)⟩⟩
   obtain ⟨ad, e, g0, g1⟩ := dot_at HR.out HB.out k x hx.out
   subst e
   have hcb : (wr.alloc (dotC x)).heap[B]? = some (boxCh S) := blk_alloc HC.out _
   have cB : (wr.alloc (dotC x)).cell? ⟨B, 0, none⟩ = _ := (blk_cell hcb 0).trans rfl
   have hN : (wr.alloc (dotC x)).heap[wr.heap.size]? = some (dotC x) := blk_new _ _
   have n0 : (wr.alloc (dotC x)).cell? ⟨wr.heap.size, 0, none⟩ = _ := (blk_cell hN 0).trans rfl
   have n1 : (wr.alloc (dotC x)).cell? ⟨wr.heap.size, 1, none⟩ = _ := (blk_cell hN 1).trans rfl
   have hB2 := below_alloc HB.out (dotC x)
   have HMC := Aside0.mk (minus1_call base S u ks x (wr.alloc (dotC x)) (blk_keep HS.out hB2) (RD.below' HU.out hB2) HKL.out HI.out)
   have HCB := Aside0.mk hcb
   have HN := Aside0.mk hN
   have HB2 := Aside0.mk hB2
   have HO2 := Aside0.mk (RD.below' HO.out (Gr.alloc wr (dotC x)).below)
   clear hcb hN hB2
   go_wp2_with fail
   refine HMC.out.mono ?_
   rintro e w2 ⟨rfl, hb⟩
   have HCB := Aside0.mk (blk_keep HCB.out hb)
   have hN := blk_keep HN.out hb
   have m0 : w2.cell? ⟨wr.heap.size, 0, none⟩ = _ := (blk_cell hN 0).trans rfl
   have m1 : w2.cell? ⟨wr.heap.size, 1, none⟩ = _ := (blk_cell hN 1).trans rfl
   have HB3 := Aside0.mk (below_more HB2.out hb)
   have HO3 := Aside0.mk (RD.below' HO2.out hb)
   clear hb hN n0 n1 cB g0 g1
   obtain ⟨b, Hb⟩ : ∃ b, Aside0 (hasK ks x = b) := ⟨_, ⟨rfl⟩⟩
   rw [Hb.out]
   cases b with
   | true =>
    have HST : Aside0 (stay ks xs (k + 1) = stay ks xs k) := ⟨by rw [stay_succ hx.out, if_pos Hb.out]⟩
    go_wp2
    go_roundw
    case rel => exact ⟨k + 1, A', m, c', by omega, rfl, by go_num, ⟨by rw [HST.out]; exact Hm.out⟩, ⟨by rw [HST.out]; exact HO3.out⟩, HCB, HB3⟩
    case measure => simp [intOf] <;> omega
   | false =>
    have HST : Aside0 (stay ks xs (k + 1) = stay ks xs k ++ [x]) := ⟨by rw [stay_succ hx.out, if_neg (by rw [Hb.out]; decide)]⟩
    obtain ⟨u2, w3, hrun, hrd, hgr, hat⟩ := run_append_dot w.heap.size 25 (.slice A' m c') (stay ks xs k) x w2.heap.size 1 (w2.alloc (dotC x)) (RD.below' HO3.out (Gr.alloc _ _).below) (blk_new _ _) (Nat.le_trans HB3.out.size (by rw [World.size_alloc]; omega)) (by have h1 := stay_le ks xs k; have h2 := Hn.out; omega)
    obtain ⟨A2, c2, rfl⟩ := RD.slice hrd
    obtain ⟨m2, Hm2⟩ : ∃ m2, Aside0 ((stay ks xs k ++ [x]).length = m2) := ⟨_, ⟨rfl⟩⟩
    rw [Hm2.out] at hrun hrd
    have hb3 : Below w.heap.size w w3 := (below_alloc HB3.out (dotC x)).grown hgr (below_alloc HB3.out (dotC x)).size (fun q e => (RD.block (RD.below' HO3.out (Gr.alloc w2 (dotC x)).below) e.symm.symm).1)
    have hcb3 : w3.heap[B]? = some (boxCh S) := (hgr.block B (blk_lt (blk_alloc HCB.out _)) (fun e => by
     obtain ⟨_, cur, hc⟩ := RD.block (RD.below' HO3.out (Gr.alloc w2 (dotC x)).below) e.symm
     have h1 := blk_alloc HCB.out (dotC x)
     rw [h1] at hc
     exact absurd (Obj.cells.inj (Option.some.inj hc)).2.1 (by decide))).trans (blk_alloc HCB.out _)
    have HRUN := Aside0.mk hrun
    have HRD := Aside0.mk hrd
    have HBW := Aside0.mk hb3
    have HCW := Aside0.mk hcb3
    clear hrun hrd hgr hat hb3 hcb3
    go_wp2_with (at_builtin; refine wpList_append_eq rfl (.tmp 18) (.tmp 20) 25 rfl rfl rfl HRUN.out ?_)
    go_roundw
    case rel => exact ⟨k + 1, A2, m2, c2, by omega, rfl, by go_num, ⟨by rw [HST.out]; exact Hm2.out⟩, ⟨by rw [HST.out]; exact HRD.out⟩, HCW, HBW⟩
    case measure => simp [intOf] <;> omega
  ·
   obtain rfl : k = n := by omega
   have hltb : decide ((k : Int) < (k : Int)) = false := decide_eq_false (by omega)
   have hall : stay ks xs k = xs.filter fun d => !hasK ks d := by unfold stay; rw [List.take_of_length_le (Nat.le_of_eq Hn.out)]
   have hnd2 : (stay ks xs k).Nodup := by rw [hall]; exact HND.out.filter _
   have hC : Kd.C k33 wr A' m (stay ks xs k) := by
    obtain ⟨A3, c3, e, _, hC⟩ := Kd.R_reads HO.out
    cases e
    exact hC
   have HSC := setD_call A' m c' (stay ks xs k) wr Hm.out hC (by have h1 := stay_le ks xs k; have h2 := Hn.out; have h3 := Hm.out; omega) hnd2
   rw [hall] at HSC
   have HSC := Aside0.mk HSC
   clear hall hnd2 hC
   go_wp2_with fail
   refine HSC.out.mono ?_
   rintro e w2 ⟨v, ys, rfl, h1, h2, h3, h4⟩
   obtain ⟨A4, c4, rfl⟩ := RD.slice h1
   have HE := Aside0.mk (And.intro (Kd.R_lower h1 HB.out.size) (And.intro h2 (And.intro h3 (below_more HB.out h4))))
   clear h1 h2 h3 h4
   go_wp2
   go_ret
   exact ⟨_, ys, rfl, HE.out.1, HE.out.2.1, HE.out.2.2.1, HE.out.2.2.2⟩
theorem incB_pw : ∀ {ys : List Dot}, incB ys = true → ys.Pairwise (fun a b => dotLt a b = true)
 | [], _ => List.Pairwise.nil
 | y :: r, h => List.pairwise_cons.2 ⟨(incB_tail h).2, incB_pw (incB_tail h).1⟩
theorem pw_unique : ∀ {a b : List Dot}, a.Perm b → a.Pairwise (fun x y => dotLt x y = true) → b.Pairwise (fun x y => dotLt x y = true) → a = b
 | [], b, hp, _, _ => by rw [List.nil_perm.1 hp]
 | x :: a, [], hp, _, _ => absurd (List.perm_nil.1 hp) (by simp)
 | x :: a, y :: b, hp, ha, hb => by
  obtain ⟨ha1, ha2⟩ := List.pairwise_cons.1 ha
  obtain ⟨hb1, hb2⟩ := List.pairwise_cons.1 hb
  have hxy : x = y := by
   refine Classical.byContradiction fun hne => ?_
   have hx : x ∈ b := (List.mem_cons.1 (hp.mem_iff.1 List.mem_cons_self)).resolve_left hne
   have hy : y ∈ a := (List.mem_cons.1 (hp.mem_iff.2 List.mem_cons_self)).resolve_left (fun e => hne e.symm)
   have := dotLt_trans (ha1 y hy) (hb1 x hx)
   rw [dotLt_irrefl] at this; cases this
  subst hxy
  rw [pw_unique (List.Perm.cons_inv hp) ha2 hb2]
set_option maxHeartbeats 1000000 in
set_option maxRecDepth 100000 in
theorem minus_call (A0 : Option Addr) (n c0 : Nat) (xs : List Dot) (A1 : Option Addr) (m c1 : Nat) (bs : List Dot) (w : World) (hn : xs.length = n) (hr0 : Kd.C k33 w A0 n xs) (hl : n ≤ 1000000) (hi : incB xs = true) (hm : bs.length = m) (hr1 : Kd.C k33 w A1 m bs) (hl1 : m ≤ 1000000) (hnd : bs.Nodup) :
  Calls Tryz.prog 22 #[.slice A0 n c0, .slice A1 m c1] w fun e w' => ∃ v, e = .returned v ∧ RD w' w.heap.size v (xs.filter fun d => decide (d ∉ bs)) ∧ Below w.heap.size w w' := by
 have HSC := Aside0.mk (setD_call A1 m c1 bs w hm hr1 hl1 hnd)
 have HR := Aside0.mk hr0
 have Hn := Aside0.mk hn
 have HL := Aside0.mk hl
 have HI := Aside0.mk hi
 have HM := Aside0.mk (show bs.length ≤ 1000000 by omega)
 clear hr0 hn hl hi hm hr1 hl1 hnd
 go_enter Tryz.func22, Tryz.ntmps22
 go_wp2_with fail
 refine HSC.out.mono ?_
 rintro e w1 ⟨v, ks, rfl, hv, hinc, hperm, hb⟩
 have hkl : ks.length ≤ 1000000 := by rw [hperm.length_eq]; exact HM.out
 obtain ⟨A2, c2, rfl⟩ := RD.slice hv
 obtain ⟨q, hq⟩ : ∃ q, ks.length = q := ⟨_, rfl⟩
 rw [hq] at hv ⊢
 have hg1 := (Gr.alloc w1 (outD (.slice A2 q c2))).below
 have hb2 := below_more hb hg1
 have HOF := ofD_call w.heap.size w1.heap.size (.slice A2 q c2) ks A0 n c0 xs (w1.alloc (outD (.slice A2 q c2))) (blk_new _ _) (RD.below' hv hg1) hkl hinc Hn.out (Kd.C_below HR.out hb2) HL.out (incB_nodup HI.out)
 have HOF := Aside0.mk HOF
 have HB := Aside0.mk hb2
 have HP := Aside0.mk hperm
 have HINC := Aside0.mk hinc
 clear hv hinc hperm hb hkl hq hg1 hb2 HSC
 go_wp2_with fail
 refine HOF.out.mono ?_
 rintro e w2 ⟨v3, ys, rfl, h1, h2, h3, h4⟩
 obtain ⟨A3, c3, rfl⟩ := RD.slice h1
 have hys : ys = xs.filter fun d => decide (d ∉ bs) := by
  have he : (xs.filter fun d => !hasK ks d) = xs.filter fun d => decide (d ∉ bs) := by
   refine List.filter_congr fun d _ => ?_
   have hk := hasK_iff HINC.out d
   rw [HP.out.mem_iff] at hk
   cases hd : hasK ks d with
   | true => simp [hk.1 hd]
   | false =>
    have : ¬ d ∈ bs := fun h => by have := hk.2 h; rw [hd] at this; cases this
    simp [this]
  rw [he] at h3
  exact pw_unique h3 (incB_pw h2) ((incB_pw HI.out).filter _)
 subst hys
 obtain ⟨nv, hnv⟩ : ∃ nv, (xs.filter fun d => decide (d ∉ bs)).length = nv := ⟨_, rfl⟩
 rw [hnv] at h1 ⊢
 clear hnv
 have HE := Aside0.mk (And.intro (Kd.R_lower h1 HB.out.size) (below_more HB.out h4))
 clear h1 h2 h3 h4
 go_wp2
 go_ret
 exact ⟨_, rfl, HE.out.1, HE.out.2⟩
theorem lost_eq {l : List Node} (hs : Store l) : ((l.map (·.f0)).filter fun d => decide (d ∉ dts (ordOf l))) = lostOf l := by
 unfold lostOf
 rw [List.filter_map]
 congr 1
 refine List.filter_congr fun x hx => ?_
 have h := reach_iff hs (hs.not_root hx)
 show decide (x.f0 ∉ dts (ordOf l)) = _
 cases hp : pathOf l x.f0 with
 | none =>
  have : ¬ x.f0 ∈ dts (ordOf l) := fun hm => by have := h.1 hm; rw [hp] at this; cases this
  simp [this]
 | some q =>
  have : x.f0 ∈ dts (ordOf l) := h.2 (by rw [hp]; rfl)
  simp [this]
theorem reach_nodup {l : List Node} (hs : Store l) : (dts (ordOf l)).Nodup := by
 have h := ord_nodup hs
 have e : dts (ordOf l) = ((ordOf l).map (·.2)).map (·.f0) := by unfold dts; rw [List.map_map]; rfl
 rw [e]
 refine List.Pairwise.map (R := fun a b => a ≠ b ∧ a ∈ (ordOf l).map (·.2) ∧ b ∈ (ordOf l).map (·.2)) _ (fun a b ⟨hab, ha, hb⟩ he => ?_) (List.Pairwise.imp_of_mem (fun ha hb h => ⟨h, ha, hb⟩) h)
 obtain ⟨p, hp, rfl⟩ := List.mem_map.1 ha
 obtain ⟨q, hq, rfl⟩ := List.mem_map.1 hb
 exact hab (inc_eq hs.inc (ord_mem hs hp) (ord_mem hs hq) he)
def dotsN (l : List Node) (k : Nat) : List Dot := (l.take k).map (·.f0)
theorem dotsN_succ {l : List Node} {k : Nat} {x : Node} (h : l[k]? = some x) : dotsN l (k + 1) = dotsN l k ++ [x.f0] := by
 unfold dotsN
 rw [List.take_succ_eq_append_getElem (List.getElem?_eq_some_iff.1 h).1, (List.getElem?_eq_some_iff.1 h).2, List.map_append]; rfl
set_option maxHeartbeats 2000000 in
set_option maxRecDepth 100000 in
theorem walk_Lost.calls (A0 : Option Addr) (c0 : Nat) (ll : List Node) (r0 : List Dot) (r1 : Int) (w : World) (hr0 : Kd.C k35 w A0 ll.length ll) (hc0 : ll.length ≤ c0) (h : walk_Lost.f ll = some (r0, r1)) :
  Calls Tryz.prog 7 #[.slice A0 ll.length c0] w fun e w' => ∃ v0_ : Value, e = .returned (.tuple #[v0_, .int .i64 r1]) ∧ Kd.R k33 33 w' w.heap.size (fun _ => True) v0_ r0 ∧ Below w.heap.size w w' := by
 unfold walk_Lost.f at h
 by_cases hl : ll.length ≤ 1000000
 rotate_left
 ·
  rw [if_neg hl] at h; cases h
 rw [if_pos hl] at h
 have HR := Aside0.mk hr0
 have HC := Aside0.mk hc0
 have HL := Aside0.mk hl
 have HH := Aside0.mk (Option.some.inj h)
 clear h hr0 hc0 hl
 obtain ⟨n, Hn⟩ : ∃ n, Aside0 (ll.length = n) := ⟨_, ⟨rfl⟩⟩
 obtain ⟨b, Hb⟩ : ∃ b, Aside0 (storeOk ll = b) := ⟨_, ⟨rfl⟩⟩
 have hval := store_Valid.calls A0 c0 ll b w HR.out HC.out (by unfold store_Valid.f; rw [if_pos HL.out, Hb.out])
 rw [Hn.out] at hval ⊢
 have HV := Aside0.mk hval
 clear hval
 go_enter Tryz.func7, Tryz.ntmps7
 go_wp2_with fail
 refine HV.out.mono ?_
 rintro e w1 ⟨rfl, hb⟩
 have HB := Aside0.mk hb
 clear hb HV
 cases b with
 | false =>
  have hrr : r0 = [] ∧ r1 = 2 := by
   have := HH.out
   rw [if_neg (by rw [Hb.out]; simp)] at this
   exact ⟨(Prod.mk.inj this).1.symm, (Prod.mk.inj this).2.symm⟩
  obtain ⟨rfl, rfl⟩ := hrr
  go_wp2
  refine bodyPost_ret (results_tmp2 rfl _ _ _) rfl ?_
  exact ⟨_, rfl, Kd.R_nil _ _ _ _ _, HB.out⟩
 | true =>
  have HS : Aside0 (Store ll) := ⟨store_of Hb.out⟩
  have hrr : r0 = lostOf ll ∧ r1 = 0 := by
   have := HH.out
   rw [if_pos Hb.out] at this
   exact ⟨(Prod.mk.inj this).1.symm, (Prod.mk.inj this).2.symm⟩
  obtain ⟨rfl, rfl⟩ := hrr
  go_wp2
  go_loopw [4, 12] (fun o i wr => ∃ (k : Nat) (A' : Option Addr) (m c' : Nat), k ≤ n ∧ o = .slice A' m c' ∧ i = .int .i64 k ∧ Aside0 ((dotsN ll k).length = m) ∧ Aside0 (RD wr w.heap.size (.slice A' m c') (dotsN ll k)) ∧ Aside0 (Below w.heap.size w wr)) (fun o i _ => n - (intOf i).toNat)
  case atStart => exact ⟨0, none, 0, 0, Nat.zero_le _, rfl, rfl, ⟨rfl⟩, ⟨Kd.R_nil _ _ _ _ _⟩, HB⟩
  case round =>
   obtain ⟨k, A', m, c', hk, rfl, rfl, Hm, HO, HB⟩ := hrel
   by_cases hlt : k < n
   ·
    have hltb : decide ((k : Int) < (n : Int)) = true := decide_eq_true (by omega)
    have hml : k < ll.length := by have := Hn.out; omega
    have hn6 : n ≤ 1000000 := by have h1 := Hn.out; have h2 := HL.out; omega
    obtain ⟨x, Hx⟩ : ∃ x, Aside0 (ll[k]? = some x) := ⟨_, ⟨List.getElem?_eq_getElem hml⟩⟩
    obtain ⟨ad, e, g0, g1, g2, g3, g4, g5⟩ := node_at HR.out HB.out k x Hx.out
    subst e
    have hN : (wr.alloc (boxN x)).heap[wr.heap.size]? = some (boxN x) := blk_new _ _
    have n0 : (wr.alloc (boxN x)).cell? ⟨wr.heap.size, 0, none⟩ = _ := (blk_cell hN 0).trans rfl
    have n1 : (wr.alloc (boxN x)).cell? ⟨wr.heap.size, 1, none⟩ = _ := (blk_cell hN 1).trans rfl
    have HBN := Aside0.mk (below_alloc HB.out (boxN x))
    have HO2 := Aside0.mk (RD.below' HO.out (Gr.alloc wr (boxN x)).below)
    have hmm : m ≤ 1000000 := by have h1 := Hm.out; have h2 := HL.out; unfold dotsN at h1; rw [List.length_map, List.length_take] at h1; omega
    obtain ⟨u2, w3, hrun, hrd, hgr, hat⟩ := run_append_dot w.heap.size 25 (.slice A' m c') (dotsN ll k) x.f0 (wr.heap.size + 1) 1 ((wr.alloc (boxN x)).alloc (dotC x.f0)) (RD.below' HO2.out (Gr.alloc _ _).below) (by have := blk_new (wr.alloc (boxN x)) (dotC x.f0); rwa [World.size_alloc] at this) (Nat.le_trans HBN.out.size (by rw [World.size_alloc (wr.alloc (boxN x))]; omega)) (by have h1 := Hm.out; omega)
    obtain ⟨A2, c2, rfl⟩ := RD.slice hrd
    obtain ⟨m2, Hm2⟩ : ∃ m2, Aside0 ((dotsN ll k ++ [x.f0]).length = m2) := ⟨_, ⟨rfl⟩⟩
    rw [Hm2.out] at hrun hrd
    have HST : Aside0 (dotsN ll (k + 1) = dotsN ll k ++ [x.f0]) := ⟨dotsN_succ Hx.out⟩
    have hb3 : Below w.heap.size w w3 := (below_alloc HBN.out (dotC x.f0)).grown hgr (below_alloc HBN.out (dotC x.f0)).size (fun q e => (RD.block (RD.below' HO2.out (Gr.alloc (wr.alloc (boxN x)) (dotC x.f0)).below) e.symm.symm).1)
    have HRUN := Aside0.mk hrun
    have HRD := Aside0.mk hrd
    have HBW := Aside0.mk hb3
    clear hrun hrd hgr hat hb3 hN hmm
    go_wp2_with (at_builtin; refine wpList_append_eq rfl (.tmp 16) (.tmp 19) 25 rfl rfl rfl HRUN.out ?_)
    go_roundw
    case rel => exact ⟨k + 1, A2, m2, c2, by omega, rfl, by go_num, ⟨by rw [HST.out]; exact Hm2.out⟩, ⟨by rw [HST.out]; exact HRD.out⟩, HBW⟩
    case measure => simp [intOf] <;> omega
   ·
    obtain rfl : k = n := by omega
    have hltb : decide ((k : Int) < (k : Int)) = false := decide_eq_false (by omega)
    have hall : dotsN ll k = ll.map (·.f0) := by unfold dotsN; rw [List.take_of_length_le (Nat.le_of_eq Hn.out)]
    have HRC := Aside0.mk (reached_call A0 k c0 ll wr Hn.out (by rw [← Hn.out]; exact Kd.C_below HR.out HB.out) (by rw [← Hn.out]; exact HC.out) HL.out HS.out Hb.out)
    go_wp2_with fail
    refine HRC.out.mono ?_
    rintro e w2 ⟨v, rfl, hv, hb⟩
    obtain ⟨A5, c5, e5, _, hC5⟩ := Kd.R_reads hv
    obtain ⟨q, hq⟩ : ∃ q, (dts (ordOf ll)).length = q := ⟨_, rfl⟩
    rw [hq] at e5 hC5
    subst e5
    have hCA : Kd.C k33 w2 A' m (ll.map (·.f0)) := by
     obtain ⟨A3, c3, e, _, hC⟩ := Kd.R_reads (RD.below' HO.out hb)
     rw [hall] at e hC
     have h1 := Hm.out
     rw [hall] at h1
     cases e
     exact hC
    have hMI := minus_call A' m c' (ll.map (·.f0)) A5 q c5 (dts (ordOf ll)) w2 (by rw [← hall]; exact Hm.out) hCA (by have h1 := Hm.out; rw [hall, List.length_map] at h1; have h2 := HL.out; omega) (by have := Hb.out; unfold storeOk at this; rw [Bool.and_eq_true] at this; exact this.2) hq hC5 (by rw [← hq]; unfold dts; rw [List.length_map]; exact Nat.le_trans (ord_le HS.out) HL.out) (reach_nodup HS.out)
    rw [lost_eq HS.out] at hMI
    have HMI := Aside0.mk hMI
    have HB2 := Aside0.mk (below_more HB.out hb)
    clear hv hb hq hC5 hCA hMI hall HRC
    go_wp2_with fail
    refine HMI.out.mono ?_
    rintro e w3 ⟨v3, rfl, h1, h2⟩
    obtain ⟨A6, c6, rfl⟩ := RD.slice h1
    have HE := Aside0.mk (And.intro (Kd.R_lower h1 HB2.out.size) (below_more HB2.out h2))
    clear h1 h2
    go_wp2
    refine bodyPost_ret (results_tmp2 rfl _ _ _) rfl ?_
    exact ⟨_, rfl, HE.out.1, HE.out.2⟩
end Go.Proofs.YtdheokololpnbaaGreatDoor.PWalk
end
section
namespace Go.Proofs.YtdheokololpnbaaGreatDoor.PWalk
open Go.RowKit Go.Proofs.YtdheokololpnbaaGreatDoorW.PrintWords Go.Proofs.YtdheokololpnbaaGreatDoorW.PrintLast Go.Proofs.YtdheokololpnbaaGreatDoorW.PrintMore
set_option linter.unusedVariables false
set_option linter.unusedSimpArgs false
open Go.Shelf
attribute [local go_sem] Oper.semAt_some
abbrev vYes (_ : Nat) : Value := .bool true
theorem nilD_C (w : World) : Kd.C k33 w none 0 [] := ⟨rfl, by decide, fun h => absurd h (by decide)⟩
set_option maxHeartbeats 2000000 in
set_option maxRecDepth 100000 in
theorem Lacking_call (A0 : Option Addr) (c0 : Nat) (l : List Node) (w : World) (hr0 : Kd.C k35 w A0 l.length l) (hc0 : l.length ≤ c0) (hl : l.length ≤ 1000000) (hs : storeOk l = true)
  (hpar : ∀ x ∈ l, dotRoot x.f1 = true ∨ x.f1 ∈ l.map (·.f0)) :
  Calls Tryz.prog 6 #[.slice A0 l.length c0] w fun e w' => ∃ A c, e = .returned (.tuple #[.slice A 0 c, .int .i64 0]) ∧ Below w.heap.size w w' := by
 have HR := Aside0.mk hr0
 have HVAL := Aside0.mk (store_Valid.calls A0 c0 l true w hr0 hc0 (by unfold store_Valid.f; rw [if_pos hl, hs]))
 have HPAR := Aside0.mk hpar
 have HLL := Aside0.mk hl
 have HIB : Aside0 (incB (l.map (·.f0)) = true) := ⟨by unfold storeOk at hs; rw [Bool.and_eq_true] at hs; exact hs.2⟩
 obtain ⟨n, Hn⟩ : ∃ n, Aside0 (l.length = n) := ⟨_, ⟨rfl⟩⟩
 obtain ⟨ks, Hks⟩ : ∃ ks, Aside0 (l.map (·.f0) = ks) := ⟨_, ⟨rfl⟩⟩
 rw [Hks.out] at HIB HPAR
 rw [Hn.out] at HVAL HR HLL hl ⊢
 have hu := Tryz.underlying35
 have hu2 := Tryz.underlying33
 have hmm := @run_makeMap Tryz.prog
 clear hr0 hs hpar hc0
 go_enter Tryz.func6, Tryz.ntmps6
 go_wp2_with fail
 refine HVAL.out.mono ?_
 rintro e V ⟨rfl, hb⟩
 have HB := Aside0.mk hb
 clear hb HVAL
 have HM0 := Aside0.mk (MapLaw.MapIs.new (enc := vDot) (val := vYes) V)
 have HB0 := Aside0.mk (below_more HB.out (below_alloc (Below.refl _ V) (.map #[] 0)))
 have hVs : Aside0 (w.heap.size ≤ V.heap.size) := ⟨HB.out.size⟩
 go_wp2
 go_loopw [17] (fun i wr => ∃ (k : Nat) (m : List (Dot × Nat)), i = .int .i64 k ∧ k ≤ n ∧ Aside0 (MapLaw.MapIs vDot vYes wr V.heap.size m) ∧ Aside0 (∀ p ∈ m, p.1 ∈ ks) ∧ Aside0 (Below w.heap.size w wr)) (fun i _ => n - (intOf i).toNat)
 case atStart => exact ⟨0, [], rfl, Nat.zero_le _, HM0, ⟨fun p hp => by cases hp⟩, HB0⟩
 case round =>
  obtain ⟨k, m, rfl, hk, HM, HMK, HW⟩ := hrel
  by_cases hlt : k < n
  ·
   obtain ⟨x, hx⟩ : ∃ x, Aside0 (l[k]? = some x) := ⟨_, ⟨List.getElem?_eq_getElem (by rw [Hn.out]; exact hlt)⟩⟩
   obtain ⟨ad, e, h0, h1, h2, h3, h4, h5⟩ := node_at HR.out HW.out k x hx.out
   subst e
   have HX := Aside0.mk (blk_new wr (boxN x))
   have HBX := Aside0.mk (below_alloc (Below.refl _ wr) (boxN x))
   go_wp2_with fail
   clear h0 h1 h2 h3 h4 h5
   refine (dot_Root.calls _ _ (dotRoot x.f1) _ (dotRoot_is _ _)).mono ?_
   rintro e W1 ⟨rfl, hb⟩
   have HX := Aside0.mk (blk_keep HX.out hb)
   have HBX := Aside0.mk (below_more HBX.out hb)
   clear hb
   have HM2 := Aside0.mk (HM.out.below HBX.out)
   have HB2 := Aside0.mk (below_more HW.out HBX.out)
   obtain ⟨b, Hb⟩ : ∃ b, Aside0 (dotRoot x.f1 = b) := ⟨_, ⟨rfl⟩⟩
   rw [Hb.out]
   cases b with
   | true =>
    go_wp2
    go_roundw
    case rel => exact ⟨k + 1, m, by go_num, by omega, HM2, HMK, HB2⟩
    case measure => simp [intOf]; omega
   | false =>
    have HXK : Aside0 (x.f1 ∈ ks) := ⟨(HPAR.out x (List.mem_of_getElem? hx.out)).resolve_left (by rw [Hb.out]; decide)⟩
    obtain ⟨x0, x1, x2, x3, x4, x5⟩ := box_cells HX.out
    go_wp2_with (at_mapUpdate; refine MapLaw.wpList_update rfl _ _ _ _ rfl dotKey Tryz.underlying48 x.f1 0 rfl rfl rfl HM2.out ?_; intro W3 hM3 hg3)
    have HM3 := Aside0.mk hM3
    have HB3 := Aside0.mk (grown_on hg3 HB2.out (fun k e => by have := Option.some.inj e; have := hVs.out; omega))
    have HMK3 : Aside0 (∀ p ∈ MapLaw.mset m x.f1 0, p.1 ∈ ks) := ⟨fun p hp => by
     have h1 : p.1 ∈ (MapLaw.mset m x.f1 0).map (·.1) := List.mem_map.2 ⟨p, hp, rfl⟩
     rw [MapLaw.mset_keys] at h1
     have h2 : p.1 ∈ m.map (·.1) ∨ p.1 = x.f1 := by
      split at h1
      ·
       exact .inl h1
      ·
       rcases List.mem_append.1 h1 with h | h
       ·
        exact .inl h
       ·
        exact .inr (List.mem_singleton.1 h)
     rcases h2 with h | h
     ·
      obtain ⟨q, hq, e⟩ := List.mem_map.1 h
      rw [← e]; exact HMK.out q hq
     ·
      rw [h]; exact HXK.out⟩
    clear hM3 hg3 x0 x1 x2 x3 x4 x5
    go_roundw
    case rel => exact ⟨k + 1, _, by go_num, by omega, HM3, HMK3, HB3⟩
    case measure => simp [intOf]; omega
  ·
   obtain rfl : k = n := by omega
   obtain ⟨B, HBV⟩ : ∃ B, Aside0 (V.heap.size = B) := ⟨_, ⟨rfl⟩⟩
   have HSB := Aside0.mk (show w.heap.size ≤ B by rw [← HBV.out]; exact hVs.out)
   rw [HBV.out] at HM ⊢
   clear HM0 HB0 hmm
   go_wp2_with (at_range; refine MapLaw.wpList_range rfl _ _ rfl Tryz.underlying48 rfl HM.out ?_; intro V2 hrg0 hg0 hs0)
   obtain ⟨R0, HR0⟩ : ∃ R0, Aside0 (wr.heap.size = R0) := ⟨_, ⟨rfl⟩⟩
   rw [HR0.out] at hrg0 hs0 ⊢
   have HRG := Aside0.mk hrg0
   have HBR := Aside0.mk (show B < R0 by rw [← HR0.out]; exact HM.out.lt)
   have HW2 := Aside0.mk (grown_on hg0 HW.out (fun k e => by cases e))
   clear hrg0 hg0
   go_frame
   go_loopw [7] (fun v wr => ∃ out left, v = .slice none 0 0 ∧ Aside0 (MapLaw.MRange vDot vYes wr B R0 m out left) ∧ Aside0 (Below w.heap.size w wr)) (fun _ wr => wr.rangeLeft B R0)
   case atStart => exact ⟨[], _, rfl, HRG, HW2⟩
   case round =>
    obtain ⟨out, left, rfl, HRG, HWW⟩ := hrel
    go_wp2_with (at_next; refine MapLaw.wpList_next rfl _ rfl rfl HRG.out ?_ ?_)
    ·
     intro hl0
     have HS := Aside0.mk (setD_call none 0 0 [] wr rfl (nilD_C wr) (by decide) List.nodup_nil)
     clear HRG
     go_wp2_with fail
     refine HS.out.mono ?_
     rintro e V3 ⟨v, ys, rfl, hRy, _, hpy, hb⟩
     obtain rfl := List.perm_nil.1 hpy
     obtain ⟨A, c, rfl⟩ := RD.slice hRy
     have HB3 := Aside0.mk (below_more HWW.out hb)
     clear hRy hpy hb HS hl0
     go_wp2
     go_ret2
     exact ⟨_, _, rfl, HB3.out⟩
    ·
     intro d bv left' W1 hrg1 hlt1 hg1 hs1 hen
     have HRG1 := Aside0.mk hrg1
     have HW1 := Aside0.mk (grown_on hg1 HWW.out (fun k e => by have := Option.some.inj e; have := HSB.out; have := HBR.out; omega))
     have HLT1 := Aside0.mk hlt1
     have HML := Aside0.mk HRG.out.left_eq
     have HDK : Aside0 (d ∈ ks) := ⟨by
      obtain ⟨_, _, _, _, _, _, _, _, _, _, _, _, _, hp⟩ := hrg1
      exact HMK.out (d, bv) (hp.mem_iff.1 (by simp))⟩
     have HX := Aside0.mk (blk_new W1 (dotC d))
     have HB3 := Aside0.mk (below_alloc (Below.refl _ W1) (dotC d))
     have HFD := Aside0.mk (storefind_call l A0 k c0 d (W1.alloc (dotC d)) ks Hks.out HIB.out Hn.out HLL.out (Kd.C_below HR.out (below_more HW1.out HB3.out)))
     rw [(hasK_iff HIB.out d).2 HDK.out] at HFD
     clear hrg1 hlt1 hg1 hs1 HRG
     go_wp2_with fail
     refine HFD.out.mono ?_
     rintro e W2 ⟨rfl, hb⟩
     have hbb := below_more HB3.out hb
     have HRG2 := Aside0.mk (HRG1.out.same (hbb.block _ HRG1.out.lt.1) (hbb.block _ HRG1.out.lt.2))
     have HW2 := Aside0.mk (below_more HW1.out hbb)
     clear hb hbb HFD hen
     go_wp2
     go_roundw
     case rel => exact ⟨_, left', rfl, HRG2, HW2⟩
     case measure => rw [HRG2.out.left_eq, HML.out]; exact HLT1.out
end Go.Proofs.YtdheokololpnbaaGreatDoor.PWalk
end
section
namespace Go.Proofs.YtdheokololpnbaaGreatDoor.PWalk
open Go.RowKit Go.Proofs.YtdheokololpnbaaGreatDoorW.PrintWords Go.Proofs.YtdheokololpnbaaGreatDoorW.PrintLast Go.Proofs.YtdheokololpnbaaGreatDoorW.PrintMore
set_option linter.unusedVariables false
set_option linter.unusedSimpArgs false
theorem eqA35 (d : Nat) (w : World) (x0 y0 : Int) (x1 y1 : Int) (x2 y2 : Int) (x3 y3 : Int) (x4 y4 : Int) (x5 y5 : Int) :
  (Op.equalIn (d + 3) 35 (.agg #[.int .i64 x0, .int .i64 x1, .int .i64 x2, .int .i64 x3, .int .i64 x4, .int .i32 x5]) (.agg #[.int .i64 y0, .int .i64 y1, .int .i64 y2, .int .i64 y3, .int .i64 y4, .int .i32 y5])).run Tryz.prog w = .ok ((x0 == y0 && (x1 == y1)) && ((x2 == y2 && (x3 == y3)) && (x4 == y4 && (x5 == y5)))) w := by
 refine eqA_of Tryz.underlying35 (by kernel_rfl) ?_
 refine eqf_cons (by rfl) (by go_simp) (by go_simp) (eqA33 (d + 0) w _ _ _ _) ?_
 refine eqf_cons (by rfl) (by go_simp) (by go_simp) (eqA33 (d + 0) w _ _ _ _) ?_
 refine eqf_cons (by rfl) (by go_simp; rfl) (by go_simp; rfl) (by go_simp) ?_
 exact eqf_last (by rfl) (by go_simp; rfl) (by go_simp; rfl) (by go_simp)
end Go.Proofs.YtdheokololpnbaaGreatDoor.PWalk
end
section
namespace Go.Proofs.YtdheokololpnbaaGreatDoor.PWalk
open Go.RowKit Go.Proofs.YtdheokololpnbaaGreatDoorW.PrintWords Go.Proofs.YtdheokololpnbaaGreatDoorW.PrintLast Go.Proofs.YtdheokololpnbaaGreatDoorW.PrintMore
set_option linter.unusedVariables false
set_option linter.unusedSimpArgs false
attribute [local go_sem high] eqA35
def redpencilref10_Equal.l0 : Nat → List (S35) → List (S35) → Int → Option (Bool)
 | 0, _, _, _ => none
 | k + 1, x0, x1, x5 => if x5 < (x0.length : Int) then (if 0 ≤ x5 then (if x5 < (x1.length : Int) then (if ((!(((rd_T35 x0 x5).f0.f0) == ((rd_T35 x1 x5).f0.f0)) || (!(((rd_T35 x0 x5).f0.f1) == ((rd_T35 x1 x5).f0.f1)))) || ((!(((rd_T35 x0 x5).f1.f0) == ((rd_T35 x1 x5).f1.f0)) || (!(((rd_T35 x0 x5).f1.f1) == ((rd_T35 x1 x5).f1.f1)))) || (!(((rd_T35 x0 x5).f2) == ((rd_T35 x1 x5).f2)) || (!(((rd_T35 x0 x5).f3) == ((rd_T35 x1 x5).f3)))))) = true then (some false) else (redpencilref10_Equal.l0 k x0 x1 (wrap64 (x5 + 1)))) else (none)) else (none)) else (some true)
def redpencilref10_Equal.f (k : Nat) (l0 : List (S35)) (l1 : List (S35)) : Option (Bool) := if (l0.length : Int) = (l1.length : Int) then (redpencilref10_Equal.l0 k l0 l1 0) else (some false)
set_option maxHeartbeats 8000000 in
set_option maxRecDepth 100000 in
theorem redpencilref10_Equal.calls (k : Nat) (A0 : Option Addr) (c0 : Nat) (l0 : List (S35)) (A1 : Option Addr) (c1 : Nat) (l1 : List (S35)) (r : Bool) (w : World) (hr0 : Kd.C k35 w A0 l0.length l0) (hc0 : l0.length ≤ c0) (hr1 : Kd.C k35 w A1 l1.length l1) (hc1 : l1.length ≤ c1) (h : redpencilref10_Equal.f k l0 l1 = some r) :
  Calls Tryz.prog 28 #[.slice A0 l0.length c0, .slice A1 l1.length c1] w fun e w' => e = .returned (.bool r) ∧ Drawn0 w w' := by
 have hu35 := Tryz.underlying35
 have HR0 := Aside0.mk hr0
 have HC0 := Aside0.mk hc0
 clear hr0 hc0
 have HR1 := Aside0.mk hr1
 have HC1 := Aside0.mk hc1
 clear hr1 hc1
 have H : (if (l0.length : Int) = (l1.length : Int) then (redpencilref10_Equal.l0 k l0 l1 0) else (some false)) = some r := h
 clear h
 by_cases c3 : (l0.length : Int) = (l1.length : Int)
 ·
  rw [if_pos c3] at H
  have c3b0 : ((l0.length : Int) == (l1.length : Int)) = true := beq_iff_eq.mpr c3
  have c3b1 : ((l0.length : Int) != (l1.length : Int)) = false := bne_eq_false_iff_eq.mpr c3
  have c3b2 : (l0.length == l1.length) = true := by first | simpa using c3 | (simp at c3 ⊢; omega)
  clear c3
  have H' := Aside0.mk H
  clear H
  go_enter Tryz.func28, Tryz.ntmps28
  go_wp2
  repeat (go_quiet (fail); try go_wp2)
  go_loopg [5] k (fun kq v5 w' => ∃ (x5_1 : Int), v5 = .int .i64 x5_1 ∧ Aside0 (redpencilref10_Equal.l0 kq l0 l1 x5_1 = some r) ∧ Aside0 (kq ≤ k) ∧ Drawn0 w w')
  case atStart => exact ⟨(0), (by first | rfl | (simp; done) | (simp [*]; done)), H', ⟨Nat.le_refl _⟩, by repeat (first | exact Drawn0.refl _ | apply Drawn0.step)⟩
  case round =>
   clear H'
   try clear c1
   try clear c2
   try clear p2
   try clear c3
   try clear c3b0
   try clear c3b1
   try clear c3b2
   obtain ⟨x5_1, rfl, HA, HK1, ⟨m1, rfl⟩⟩ := hrel
   cases gk with
   | zero => exact absurd HA.out (by simp [redpencilref10_Equal.l0])
   | succ k1 =>
    have H := HA.out
    clear HA
    simp only [redpencilref10_Equal.l0] at H
    by_cases c4 : x5_1 < (l0.length : Int)
    ·
     rw [if_pos c4] at H
     have c4b0 : decide (x5_1 < (l0.length : Int)) = true := decide_eq_true c4
     clear c4
     by_cases c5 : 0 ≤ x5_1
     ·
      rw [if_pos c5] at H
      have c5b0 : decide (0 ≤ x5_1) = true := decide_eq_true c5
      clear c5
      by_cases c6 : x5_1 < (l1.length : Int)
      ·
       rw [if_pos c6] at H
       have c6b0 : decide (x5_1 < (l1.length : Int)) = true := decide_eq_true c6
       clear c6
       by_cases c7 : ((!(((rd_T35 l0 x5_1).f0.f0) == ((rd_T35 l1 x5_1).f0.f0)) || (!(((rd_T35 l0 x5_1).f0.f1) == ((rd_T35 l1 x5_1).f0.f1)))) || ((!(((rd_T35 l0 x5_1).f1.f0) == ((rd_T35 l1 x5_1).f1.f0)) || (!(((rd_T35 l0 x5_1).f1.f1) == ((rd_T35 l1 x5_1).f1.f1)))) || (!(((rd_T35 l0 x5_1).f2) == ((rd_T35 l1 x5_1).f2)) || (!(((rd_T35 l0 x5_1).f3) == ((rd_T35 l1 x5_1).f3)))))) = true
       ·
        rw [if_pos c7] at H
        have c7b0 : ((!(((rd_T35 l0 x5_1).f0.f0) == ((rd_T35 l1 x5_1).f0.f0)) || (!(((rd_T35 l0 x5_1).f0.f1) == ((rd_T35 l1 x5_1).f0.f1)))) || ((!(((rd_T35 l0 x5_1).f1.f0) == ((rd_T35 l1 x5_1).f1.f0)) || (!(((rd_T35 l0 x5_1).f1.f1) == ((rd_T35 l1 x5_1).f1.f1)))) || (!(((rd_T35 l0 x5_1).f2) == ((rd_T35 l1 x5_1).f2)) || (!(((rd_T35 l0 x5_1).f3) == ((rd_T35 l1 x5_1).f3)))))) = true := c7
        clear c7
        obtain rfl := Option.some.inj H
        have p126 : 0 ≤ (x5_1 : Int) := of_decide_eq_true (by first | (with_reducible assumption) | assumption)
        have q126 : x5_1 < (l0.length : Int) := of_decide_eq_true (by first | (with_reducible assumption) | assumption)
        obtain ⟨ad126, e126, hx126_0, hx126_1, hx126_2, hx126_3, hx126_4, hx126_5⟩ := at_T35 HR0.out x5_1 p126 q126
        cases e126
        replace p126 := eq_true p126
        replace q126 := eq_true q126
        have p127 : 0 ≤ (x5_1 : Int) := of_decide_eq_true (by first | (with_reducible assumption) | assumption)
        have q127 : x5_1 < (l1.length : Int) := of_decide_eq_true (by first | (with_reducible assumption) | assumption)
        obtain ⟨ad127, e127, hx127_0, hx127_1, hx127_2, hx127_3, hx127_4, hx127_5⟩ := at_T35 HR1.out x5_1 p127 q127
        cases e127
        replace p127 := eq_true p127
        replace q127 := eq_true q127
        go_wp2
        repeat (go_quiet (fail); try go_wp2)
        go_ret
        exact ⟨by first | rfl | (simp; done) | (simp [*]; done), by repeat (first | exact Drawn0.refl _ | apply Drawn0.step)⟩
       ·
        rw [if_neg c7] at H
        have c7b0 : ((!(((rd_T35 l0 x5_1).f0.f0) == ((rd_T35 l1 x5_1).f0.f0)) || (!(((rd_T35 l0 x5_1).f0.f1) == ((rd_T35 l1 x5_1).f0.f1)))) || ((!(((rd_T35 l0 x5_1).f1.f0) == ((rd_T35 l1 x5_1).f1.f0)) || (!(((rd_T35 l0 x5_1).f1.f1) == ((rd_T35 l1 x5_1).f1.f1)))) || (!(((rd_T35 l0 x5_1).f2) == ((rd_T35 l1 x5_1).f2)) || (!(((rd_T35 l0 x5_1).f3) == ((rd_T35 l1 x5_1).f3)))))) = false := by simpa using c7
        clear c7
        have H' := Aside0.mk H
        clear H
        have p126 : 0 ≤ (x5_1 : Int) := of_decide_eq_true (by first | (with_reducible assumption) | assumption)
        have q126 : x5_1 < (l0.length : Int) := of_decide_eq_true (by first | (with_reducible assumption) | assumption)
        obtain ⟨ad126, e126, hx126_0, hx126_1, hx126_2, hx126_3, hx126_4, hx126_5⟩ := at_T35 HR0.out x5_1 p126 q126
        cases e126
        replace p126 := eq_true p126
        replace q126 := eq_true q126
        have p127 : 0 ≤ (x5_1 : Int) := of_decide_eq_true (by first | (with_reducible assumption) | assumption)
        have q127 : x5_1 < (l1.length : Int) := of_decide_eq_true (by first | (with_reducible assumption) | assumption)
        obtain ⟨ad127, e127, hx127_0, hx127_1, hx127_2, hx127_3, hx127_4, hx127_5⟩ := at_T35 HR1.out x5_1 p127 q127
        cases e127
        replace p127 := eq_true p127
        replace q127 := eq_true q127
        go_wp2
        repeat (go_quiet (fail); try go_wp2)
        go_roundg k1
        case measure => have := HK1.out; omega
        case rel => exact ⟨(wrap64 (x5_1 + 1)), (by first | rfl | (simp; done) | (simp [*]; done)), H', ⟨by have := HK1.out; omega⟩, by repeat (first | exact Drawn0.refl _ | apply Drawn0.step)⟩
      ·
       rw [if_neg c6] at H
       exact absurd H (by simp)
     ·
      rw [if_neg c5] at H
      exact absurd H (by simp)
    ·
     rw [if_neg c4] at H
     have c4b0 : decide (x5_1 < (l0.length : Int)) = false := decide_eq_false c4
     clear c4
     obtain rfl := Option.some.inj H
     go_wp2
     repeat (go_quiet (fail); try go_wp2)
     go_ret
     exact ⟨by first | rfl | (simp; done) | (simp [*]; done), by repeat (first | exact Drawn0.refl _ | apply Drawn0.step)⟩
 ·
  rw [if_neg c3] at H
  have c3b0 : ((l0.length : Int) == (l1.length : Int)) = false := beq_eq_false_iff_ne.mpr c3
  have c3b1 : ((l0.length : Int) != (l1.length : Int)) = true := bne_iff_ne.mpr c3
  have c3b2 : (l0.length == l1.length) = false := by first | simpa using c3 | (simp at c3 ⊢; omega)
  obtain rfl := Option.some.inj H
  go_enter Tryz.func28, Tryz.ntmps28
  go_wp2
  repeat (go_quiet (fail); try go_wp2)
  go_ret
  exact ⟨by first | rfl | (simp; done) | (simp [*]; done), by repeat (first | exact Drawn0.refl _ | apply Drawn0.step)⟩
def redpencillaw13_whole.f (k : Nat) (l0 : List (S35)) (l1 : List (S35)) (a2 : Int) : Option (Bool) := (shape_Whole.f l0).bind fun bt128 => ((redpencilref10_Equal.f k bt128.1 l1).bind fun t132 => (if t132 = true then (some (bt128.2 == a2)) else (some false)))
set_option maxHeartbeats 8000000 in
set_option maxRecDepth 100000 in
theorem redpencillaw13_whole.calls (k : Nat) (A0 : Option Addr) (c0 : Nat) (l0 : List (S35)) (A1 : Option Addr) (c1 : Nat) (l1 : List (S35)) (a2 : Int) (r : Bool) (w : World) (hr0 : Kd.C k35 w A0 l0.length l0) (hc0 : l0.length ≤ c0) (hr1 : Kd.C k35 w A1 l1.length l1) (hc1 : l1.length ≤ c1) (h : redpencillaw13_whole.f k l0 l1 a2 = some r) :
  Calls Tryz.prog 9 #[.slice A0 l0.length c0, .slice A1 l1.length c1, .int .i64 a2] w fun e w' => e = .returned (.bool r) ∧ Below w.heap.size w w' := by
 have HR0 := Aside0.mk hr0
 have HC0 := Aside0.mk hc0
 clear hr0 hc0
 have HR1 := Aside0.mk hr1
 have HC1 := Aside0.mk hc1
 clear hr1 hc1
 have HB := Aside0.mk (Below.refl w.heap.size w)
 have H : ((shape_Whole.f l0).bind fun bt128 => ((redpencilref10_Equal.f k bt128.1 l1).bind fun t132 => (if t132 = true then (some (bt128.2 == a2)) else (some false)))) = some r := h
 clear h
 replace H := Option.bind_eq_some_iff.mp H
 obtain ⟨⟨t128, t129⟩, A40, H⟩ := H
 replace H : ((redpencilref10_Equal.f k t128 l1).bind fun t132 => (if t132 = true then (some (t129 == a2)) else (some false))) = some r := H
 have A4 := Aside0.mk A40
 clear A40
 replace H := Option.bind_eq_some_iff.mp H
 obtain ⟨t132, A50, H⟩ := H
 replace H : (if t132 = true then (some (t129 == a2)) else (some false)) = some r := H
 have A5 := Aside0.mk A50
 clear A50
 by_cases c6 : t132 = true
 ·
  subst c6
  have H1 : (some (t129 == a2)) = some r := by rw [if_pos rfl] at H; exact H
  clear H
  have H := H1
  clear H1
  obtain rfl := Option.some.inj H
  go_enter Tryz.func9, Tryz.ntmps9
  go_wp2_with (first | ((with_reducible refine gate_callee (f := 10) rfl ?_); refine goesL_ (some 11) rfl rfl Tryz.func10 (by kernel_rfl) rfl #[.slice A0 l0.length c0] rfl (by (try simp only [List.map_toArray, List.map_cons, List.map_nil]); first | done | rfl | (simp only [List.length_drop, List.length_take]; rfl)) ?_; (with_reducible refine (shape_Whole.calls _ _ l0 t128 t129 _ ?side1 ?side2 A4.out).mono ?_); (case side1 => repeat (first | exact HR0.out | (with_reducible refine Kd.C_alloc ?_ _) | (with_reducible refine Kd.C_drewN ?_ _) | (with_reducible refine Kd.C_drew ?_))); (case side2 => exact HC0.out); rintro e w7 ⟨v130, rfl, ho0, hb⟩; refine ⟨_, rfl, ?_⟩; have n0_ := Aside0.mk (Kd.R_lower ho0 (below_size (by repeat (first | (with_reducible first | exact HB.out | apply below_alloc | apply pw_below_drewN | apply below_drew1) | exact HB.out)))); have n1_ := Aside0.mk (below_step (by repeat (first | (with_reducible first | exact HB.out | apply below_alloc | apply pw_below_drewN | apply below_drew1) | exact HB.out)) hb); clear HB; have HO131 := n0_; have HB := n1_; clear n0_ n1_; (try clear hb); (try clear hb2); (try clear hk); (try clear hi); (try clear ho0); obtain ⟨Ao8, co8, eo8⟩ := Kd.R_slice HO131.out; subst eo8) | ((with_reducible refine gate_callee (f := 28) rfl ?_); refine goesL_ (some 16) rfl rfl Tryz.func28 (by kernel_rfl) rfl #[.slice Ao8 t128.length co8, .slice A1 l1.length c1] rfl (by (try simp only [List.map_toArray, List.map_cons, List.map_nil]); first | done | rfl | (simp only [List.length_drop, List.length_take]; rfl)) ?_; (with_reducible refine (redpencilref10_Equal.calls k _ _ t128 _ _ l1 true _ ?side1 ?side2 ?side3 ?side4 A5.out).mono ?_); (case side1 => repeat (first | exact (Kd.R_reads' HO131.out).2.2 | (with_reducible refine Kd.C_alloc ?_ _) | (with_reducible refine Kd.C_drewN ?_ _) | (with_reducible refine Kd.C_drew ?_))); (case side2 => exact (Kd.R_reads' HO131.out).2.1); (case side3 => repeat (first | exact (Kd.C_below HR1.out HB.out) | (with_reducible refine Kd.C_alloc ?_ _) | (with_reducible refine Kd.C_drewN ?_ _) | (with_reducible refine Kd.C_drew ?_))); (case side4 => exact HC1.out); rintro e w' ⟨rfl, ⟨nd, rfl⟩⟩; refine ⟨_, rfl, ?_⟩))
  go_ret
  exact ⟨by first | rfl | (simp [errW_none, errW_some] <;> rfl) | (simp [*, errW_none, errW_some] <;> rfl), by repeat (first | (with_reducible first | exact HB.out | apply below_alloc | apply pw_below_drewN | apply below_drew1) | exact HB.out)⟩
 ·
  replace c6 := Bool.eq_false_iff.mpr c6
  subst c6
  have H1 : (some false) = some r := by rw [if_neg (show ¬ (false = true) by decide)] at H; exact H
  clear H
  have H := H1
  clear H1
  obtain rfl := Option.some.inj H
  go_enter Tryz.func9, Tryz.ntmps9
  go_wp2_with (first | ((with_reducible refine gate_callee (f := 10) rfl ?_); refine goesL_ (some 11) rfl rfl Tryz.func10 (by kernel_rfl) rfl #[.slice A0 l0.length c0] rfl (by (try simp only [List.map_toArray, List.map_cons, List.map_nil]); first | done | rfl | (simp only [List.length_drop, List.length_take]; rfl)) ?_; (with_reducible refine (shape_Whole.calls _ _ l0 t128 t129 _ ?side1 ?side2 A4.out).mono ?_); (case side1 => repeat (first | exact HR0.out | (with_reducible refine Kd.C_alloc ?_ _) | (with_reducible refine Kd.C_drewN ?_ _) | (with_reducible refine Kd.C_drew ?_))); (case side2 => exact HC0.out); rintro e w9 ⟨v130, rfl, ho0, hb⟩; refine ⟨_, rfl, ?_⟩; have n0_ := Aside0.mk (Kd.R_lower ho0 (below_size (by repeat (first | (with_reducible first | exact HB.out | apply below_alloc | apply pw_below_drewN | apply below_drew1) | exact HB.out)))); have n1_ := Aside0.mk (below_step (by repeat (first | (with_reducible first | exact HB.out | apply below_alloc | apply pw_below_drewN | apply below_drew1) | exact HB.out)) hb); clear HB; have HO131 := n0_; have HB := n1_; clear n0_ n1_; (try clear hb); (try clear hb2); (try clear hk); (try clear hi); (try clear ho0); obtain ⟨Ao10, co10, eo10⟩ := Kd.R_slice HO131.out; subst eo10) | ((with_reducible refine gate_callee (f := 28) rfl ?_); refine goesL_ (some 16) rfl rfl Tryz.func28 (by kernel_rfl) rfl #[.slice Ao10 t128.length co10, .slice A1 l1.length c1] rfl (by (try simp only [List.map_toArray, List.map_cons, List.map_nil]); first | done | rfl | (simp only [List.length_drop, List.length_take]; rfl)) ?_; (with_reducible refine (redpencilref10_Equal.calls k _ _ t128 _ _ l1 false _ ?side1 ?side2 ?side3 ?side4 A5.out).mono ?_); (case side1 => repeat (first | exact (Kd.R_reads' HO131.out).2.2 | (with_reducible refine Kd.C_alloc ?_ _) | (with_reducible refine Kd.C_drewN ?_ _) | (with_reducible refine Kd.C_drew ?_))); (case side2 => exact (Kd.R_reads' HO131.out).2.1); (case side3 => repeat (first | exact (Kd.C_below HR1.out HB.out) | (with_reducible refine Kd.C_alloc ?_ _) | (with_reducible refine Kd.C_drewN ?_ _) | (with_reducible refine Kd.C_drew ?_))); (case side4 => exact HC1.out); rintro e w' ⟨rfl, ⟨nd, rfl⟩⟩; refine ⟨_, rfl, ?_⟩))
  go_ret
  exact ⟨by first | rfl | (simp [errW_none, errW_some] <;> rfl) | (simp [*, errW_none, errW_some] <;> rfl), by repeat (first | (with_reducible first | exact HB.out | apply below_alloc | apply pw_below_drewN | apply below_drew1) | exact HB.out)⟩
def redpencillaw13_of.f (a0_0 : Int) (a0_1 : Int) (a1_0 : Int) (a1_1 : Int) (a2 : Int) (a3 : Int) : Option (Int × Int × Int × Int × Int × Int) := some (a0_0, a0_1, a1_0, a1_1, a2, a3)
set_option maxHeartbeats 8000000 in
set_option maxRecDepth 100000 in
theorem redpencillaw13_of.calls (a0_0 : Int) (a0_1 : Int) (a1_0 : Int) (a1_1 : Int) (a2 : Int) (a3 : Int) (r1 : Int) (r2 : Int) (r3 : Int) (r4 : Int) (r5 : Int) (r6 : Int) (w : World) (h : redpencillaw13_of.f a0_0 a0_1 a1_0 a1_1 a2 a3 = some (r1, r2, r3, r4, r5, r6)) :
  Calls Tryz.prog 13 #[.agg #[.int .i64 a0_0, .int .i64 a0_1], .agg #[.int .i64 a1_0, .int .i64 a1_1], .int .i64 a2, .int .i32 a3] w fun e w' => e = .returned (.agg #[.int .i64 r1, .int .i64 r2, .int .i64 r3, .int .i64 r4, .int .i64 r5, .int .i32 r6]) ∧ Below w.heap.size w w' := by
 have hu33 := Tryz.underlying33
 have hu35 := Tryz.underlying35
 have HB := Aside0.mk (Below.refl w.heap.size w)
 have H : (some (a0_0, a0_1, a1_0, a1_1, a2, a3)) = some (r1, r2, r3, r4, r5, r6) := h
 clear h
 simp only [Option.some.injEq, Prod.mk.injEq] at H
 obtain ⟨rfl, rfl, rfl, rfl, rfl, rfl⟩ := H
 go_enter Tryz.func13, Tryz.ntmps13
 go_wp2_with (first | ((with_reducible refine gate_dst (N := 4) rfl ?_); refine box_event ?hg (N := 4) ?hd (cs := #[.int .i64 a0_0, .int .i64 a0_1]) (t := 33) ?hr ?_; (case hd => rfl); (case hg => rfl); (case hr => first | (go_simp; done) | (go_simp; rfl)); intro gb133 hg w5 hbox hb; have n0_ := Aside0.mk (below_step (by repeat (first | (with_reducible first | exact HB.out | apply below_alloc | apply pw_below_drewN | apply below_drew1) | exact HB.out)) hb); have n1_ := Aside0.mk (hbox); have n2_ := Aside0.mk ((by rw [hg]; exact (below_size (by repeat (first | (with_reducible first | exact HB.out | apply below_alloc | apply pw_below_drewN | apply below_drew1) | exact HB.out))) : w.heap.size ≤ gb133)); have n3_ := Aside0.mk ((by rw [hg]; exact (below_size (by repeat (first | (with_reducible first | exact HB.out | apply below_alloc | apply pw_below_drewN | apply below_drew1) | exact HB.out))) : w.heap.size ≤ gb133)); clear HB; have HB := n0_; have BK133 := n1_; have GW133 := n2_; have GE133 := n3_; clear n0_ n1_ n2_ n3_; clear hb hbox hg) | ((with_reducible refine gate_dst (N := 5) rfl ?_); refine box_event ?hg (N := 5) ?hd (cs := #[.int .i64 a1_0, .int .i64 a1_1]) (t := 33) ?hr ?_; (case hd => rfl); (case hg => rfl); (case hr => first | (go_simp; done) | (go_simp; rfl)); intro gb134 hg w6 hbox hb; have n0_ := Aside0.mk (blk_below (g := gb133) (o := .cells #[.int .i64 a0_0, .int .i64 a0_1] 33 (0, 0)) (by (with_reducible repeat (first | refine blk_drewN ?_ _ | refine blk_drew ?_ | refine blk_alloc ?_ _)); exact BK133.out) hb); have n1_ := Aside0.mk (below_step (by repeat (first | (with_reducible first | exact HB.out | apply below_alloc | apply pw_below_drewN | apply below_drew1 | refine below_set ?_ GE133.out) | exact HB.out)) hb); have n2_ := Aside0.mk (hbox); have n3_ := Aside0.mk ((by rw [hg]; exact (below_size (by repeat (first | (with_reducible first | exact HB.out | apply below_alloc | apply pw_below_drewN | apply below_drew1 | refine below_set ?_ GE133.out) | exact HB.out))) : w.heap.size ≤ gb134)); have n4_ := Aside0.mk ((by rw [hg]; exact (below_size (by repeat (first | (with_reducible first | exact HB.out | apply below_alloc | apply pw_below_drewN | apply below_drew1 | refine below_set ?_ GE133.out) | exact HB.out))) : w.heap.size ≤ gb134)); have n5_ := Aside0.mk ((by rw [hg]; exact Nat.ne_of_lt (blk_lt (g := gb133) (o := .cells #[.int .i64 a0_0, .int .i64 a0_1] 33 (0, 0)) (by (with_reducible repeat (first | refine blk_drewN ?_ _ | refine blk_drew ?_ | refine blk_alloc ?_ _)); exact BK133.out)) : gb133 ≠ gb134)); have n6_ := Aside0.mk ((by rw [hg]; exact Nat.ne_of_gt (blk_lt (g := gb133) (o := .cells #[.int .i64 a0_0, .int .i64 a0_1] 33 (0, 0)) (by (with_reducible repeat (first | refine blk_drewN ?_ _ | refine blk_drew ?_ | refine blk_alloc ?_ _)); exact BK133.out)) : gb134 ≠ gb133)); clear BK133; clear HB; have BK133 := n0_; have HB := n1_; have BK134 := n2_; have GW134 := n3_; have GE134 := n4_; have NB133_134 := n5_; have NB134_133 := n6_; clear n0_ n1_ n2_ n3_ n4_ n5_ n6_; clear hb hbox hg) | ((with_reducible refine gate_dst (N := 8) rfl ?_); refine box_event ?hg (N := 8) ?hd (cs := #[.int .i64 0, .int .i64 0, .int .i64 0, .int .i64 0, .int .i64 0, .int .i32 0]) (t := 35) ?hr ?_; (case hd => rfl); (case hg => rfl); (case hr => first | (go_simp; done) | (go_simp; rfl)); intro gb135 hg w7 hbox hb; have n0_ := Aside0.mk (blk_below (g := gb133) (o := .cells #[.int .i64 a0_0, .int .i64 a0_1] 33 (0, 0)) (by (with_reducible repeat (first | refine blk_drewN ?_ _ | refine blk_drew ?_ | refine blk_alloc ?_ _)); exact BK133.out) hb); have n1_ := Aside0.mk (blk_below (g := gb134) (o := .cells #[.int .i64 a1_0, .int .i64 a1_1] 33 (0, 0)) (by (with_reducible repeat (first | refine blk_drewN ?_ _ | refine blk_drew ?_ | refine blk_alloc ?_ _)); exact BK134.out) hb); have n2_ := Aside0.mk (below_step (by repeat (first | (with_reducible first | exact HB.out | apply below_alloc | apply pw_below_drewN | apply below_drew1 | refine below_set ?_ GE133.out | refine below_set ?_ GE134.out) | exact HB.out)) hb); have n3_ := Aside0.mk (hbox); have n4_ := Aside0.mk ((by rw [hg]; exact (below_size (by repeat (first | (with_reducible first | exact HB.out | apply below_alloc | apply pw_below_drewN | apply below_drew1 | refine below_set ?_ GE133.out | refine below_set ?_ GE134.out) | exact HB.out))) : w.heap.size ≤ gb135)); have n5_ := Aside0.mk ((by rw [hg]; exact (below_size (by repeat (first | (with_reducible first | exact HB.out | apply below_alloc | apply pw_below_drewN | apply below_drew1 | refine below_set ?_ GE133.out | refine below_set ?_ GE134.out) | exact HB.out))) : w.heap.size ≤ gb135)); have n6_ := Aside0.mk ((by rw [hg]; exact Nat.ne_of_lt (blk_lt (g := gb133) (o := .cells #[.int .i64 a0_0, .int .i64 a0_1] 33 (0, 0)) (by (with_reducible repeat (first | refine blk_drewN ?_ _ | refine blk_drew ?_ | refine blk_alloc ?_ _)); exact BK133.out)) : gb133 ≠ gb135)); have n7_ := Aside0.mk ((by rw [hg]; exact Nat.ne_of_gt (blk_lt (g := gb133) (o := .cells #[.int .i64 a0_0, .int .i64 a0_1] 33 (0, 0)) (by (with_reducible repeat (first | refine blk_drewN ?_ _ | refine blk_drew ?_ | refine blk_alloc ?_ _)); exact BK133.out)) : gb135 ≠ gb133)); have n8_ := Aside0.mk ((by rw [hg]; exact Nat.ne_of_lt (blk_lt (g := gb134) (o := .cells #[.int .i64 a1_0, .int .i64 a1_1] 33 (0, 0)) (by (with_reducible repeat (first | refine blk_drewN ?_ _ | refine blk_drew ?_ | refine blk_alloc ?_ _)); exact BK134.out)) : gb134 ≠ gb135)); have n9_ := Aside0.mk ((by rw [hg]; exact Nat.ne_of_gt (blk_lt (g := gb134) (o := .cells #[.int .i64 a1_0, .int .i64 a1_1] 33 (0, 0)) (by (with_reducible repeat (first | refine blk_drewN ?_ _ | refine blk_drew ?_ | refine blk_alloc ?_ _)); exact BK134.out)) : gb135 ≠ gb134)); clear BK133; clear BK134; clear HB; have BK133 := n0_; have BK134 := n1_; have HB := n2_; have BK135 := n3_; have GW135 := n4_; have GE135 := n5_; have NB133_135 := n6_; have NB135_133 := n7_; have NB134_135 := n8_; have NB135_134 := n9_; clear n0_ n1_ n2_ n3_ n4_ n5_ n6_ n7_ n8_ n9_; clear hb hbox hg; have hnb8 := NB133_134.out; have hnc8 := NB134_133.out; have hnb9 := NB133_135.out; have hnc9 := NB135_133.out; have hcz10_0 : w7.cell? ⟨gb133, 0, none⟩ = some (.int .i64 a0_0) := (blk_cell BK133.out 0).trans rfl; have hcz10_1 : w7.cell? ⟨gb133, 1, none⟩ = some (.int .i64 a0_1) := (blk_cell BK133.out 1).trans rfl; have hfz10_0 := blk_frozen BK133.out 0; have hfz10_1 := blk_frozen BK133.out 1; have hnb11 := NB134_135.out; have hnc11 := NB135_134.out; have hcz12_0 : w7.cell? ⟨gb134, 0, none⟩ = some (.int .i64 a1_0) := (blk_cell BK134.out 0).trans rfl; have hcz12_1 : w7.cell? ⟨gb134, 1, none⟩ = some (.int .i64 a1_1) := (blk_cell BK134.out 1).trans rfl; have hfz12_0 := blk_frozen BK134.out 0; have hfz12_1 := blk_frozen BK134.out 1; have hcz13_0 : w7.cell? ⟨gb135, 0, none⟩ = some (.int .i64 0) := (blk_cell BK135.out 0).trans rfl; have hcz13_1 : w7.cell? ⟨gb135, 1, none⟩ = some (.int .i64 0) := (blk_cell BK135.out 1).trans rfl; have hcz13_2 : w7.cell? ⟨gb135, 2, none⟩ = some (.int .i64 0) := (blk_cell BK135.out 2).trans rfl; have hcz13_3 : w7.cell? ⟨gb135, 3, none⟩ = some (.int .i64 0) := (blk_cell BK135.out 3).trans rfl; have hcz13_4 : w7.cell? ⟨gb135, 4, none⟩ = some (.int .i64 0) := (blk_cell BK135.out 4).trans rfl; have hcz13_5 : w7.cell? ⟨gb135, 5, none⟩ = some (.int .i32 0) := (blk_cell BK135.out 5).trans rfl; have hfz13_0 := blk_frozen BK135.out 0; have hfz13_1 := blk_frozen BK135.out 1; have hfz13_2 := blk_frozen BK135.out 2; have hfz13_3 := blk_frozen BK135.out 3; have hfz13_4 := blk_frozen BK135.out 4; have hfz13_5 := blk_frozen BK135.out 5))
 refine bodyPost_ret (results_cell_row rfl _ _ gb135 35 #[.int .i64 a0_0, .int .i64 a0_1, .int .i64 a1_0, .int .i64 a1_1, .int .i64 a2, .int .i32 a3] (0, 0) _ rfl (by (with_reducible repeat (first | refine blk_drewN ?_ _ | refine blk_drew ?_ | refine blk_alloc ?_ _)); refine blk_put (cs := #[.int .i64 a0_0, .int .i64 a0_1, .int .i64 a1_0, .int .i64 a1_1, .int .i64 a2, .int .i32 0]) ?_ 5 _ rfl; (with_reducible repeat (first | refine blk_drewN ?_ _ | refine blk_drew ?_ | refine blk_alloc ?_ _)); refine blk_put (cs := #[.int .i64 a0_0, .int .i64 a0_1, .int .i64 a1_0, .int .i64 a1_1, .int .i64 0, .int .i32 0]) ?_ 4 _ rfl; (with_reducible repeat (first | refine blk_drewN ?_ _ | refine blk_drew ?_ | refine blk_alloc ?_ _)); refine blk_put (cs := #[.int .i64 a0_0, .int .i64 a0_1, .int .i64 a1_0, .int .i64 0, .int .i64 0, .int .i32 0]) ?_ 3 _ rfl; (with_reducible repeat (first | refine blk_drewN ?_ _ | refine blk_drew ?_ | refine blk_alloc ?_ _)); refine blk_put (cs := #[.int .i64 a0_0, .int .i64 a0_1, .int .i64 0, .int .i64 0, .int .i64 0, .int .i32 0]) ?_ 2 _ rfl; (with_reducible repeat (first | refine blk_drewN ?_ _ | refine blk_drew ?_ | refine blk_alloc ?_ _)); refine blk_put (cs := #[.int .i64 a0_0, .int .i64 0, .int .i64 0, .int .i64 0, .int .i64 0, .int .i32 0]) ?_ 1 _ rfl; (with_reducible repeat (first | refine blk_drewN ?_ _ | refine blk_drew ?_ | refine blk_alloc ?_ _)); refine blk_put (cs := #[.int .i64 0, .int .i64 0, .int .i64 0, .int .i64 0, .int .i64 0, .int .i32 0]) ?_ 0 _ rfl; (with_reducible repeat (first | refine blk_drewN ?_ _ | refine blk_drew ?_ | refine blk_alloc ?_ _)); exact BK135.out) Tryz.underlying35 rfl (by kernel_rfl)) rfl ?_
 exact ⟨by first | rfl | (simp [errW_none, errW_some] <;> rfl) | (simp [*, errW_none, errW_some] <;> rfl), by repeat (first | (with_reducible first | exact HB.out | apply below_alloc | apply pw_below_drewN | apply below_drew1 | refine below_set ?_ GE133.out | refine below_set ?_ GE134.out | refine below_set ?_ GE135.out) | exact HB.out)⟩
def redpencillaw13_at.f (a0 : Int) (a1 : Int) : Option (Int × Int) := some (a0, a1)
set_option maxHeartbeats 8000000 in
set_option maxRecDepth 100000 in
theorem redpencillaw13_at.calls (a0 : Int) (a1 : Int) (r1 : Int) (r2 : Int) (w : World) (h : redpencillaw13_at.f a0 a1 = some (r1, r2)) :
  Calls Tryz.prog 14 #[.int .i64 a0, .int .i64 a1] w fun e w' => e = .returned (.agg #[.int .i64 r1, .int .i64 r2]) ∧ Below w.heap.size w w' := by
 have hu33 := Tryz.underlying33
 have HB := Aside0.mk (Below.refl w.heap.size w)
 have H : (some (a0, a1)) = some (r1, r2) := h
 clear h
 simp only [Option.some.injEq, Prod.mk.injEq] at H
 obtain ⟨rfl, rfl⟩ := H
 go_enter Tryz.func14, Tryz.ntmps14
 go_wp2_with (first | ((with_reducible refine gate_dst (N := 4) rfl ?_); refine box_event ?hg (N := 4) ?hd (cs := #[.int .i64 0, .int .i64 0]) (t := 33) ?hr ?_; (case hd => rfl); (case hg => rfl); (case hr => first | (go_simp; done) | (go_simp; rfl)); intro gb136 hg w3 hbox hb; have n0_ := Aside0.mk (below_step (by repeat (first | (with_reducible first | exact HB.out | apply below_alloc | apply pw_below_drewN | apply below_drew1) | exact HB.out)) hb); have n1_ := Aside0.mk (hbox); have n2_ := Aside0.mk ((by rw [hg]; exact (below_size (by repeat (first | (with_reducible first | exact HB.out | apply below_alloc | apply pw_below_drewN | apply below_drew1) | exact HB.out))) : w.heap.size ≤ gb136)); have n3_ := Aside0.mk ((by rw [hg]; exact (below_size (by repeat (first | (with_reducible first | exact HB.out | apply below_alloc | apply pw_below_drewN | apply below_drew1) | exact HB.out))) : w.heap.size ≤ gb136)); clear HB; have HB := n0_; have BK136 := n1_; have GW136 := n2_; have GE136 := n3_; clear n0_ n1_ n2_ n3_; clear hb hbox hg; have hcz4_0 : w3.cell? ⟨gb136, 0, none⟩ = some (.int .i64 0) := (blk_cell BK136.out 0).trans rfl; have hcz4_1 : w3.cell? ⟨gb136, 1, none⟩ = some (.int .i64 0) := (blk_cell BK136.out 1).trans rfl; have hfz4_0 := blk_frozen BK136.out 0; have hfz4_1 := blk_frozen BK136.out 1))
 refine bodyPost_ret (results_cell_row rfl _ _ gb136 33 #[.int .i64 a0, .int .i64 a1] (0, 0) _ rfl (by (with_reducible repeat (first | refine blk_drewN ?_ _ | refine blk_drew ?_ | refine blk_alloc ?_ _)); refine blk_put (cs := #[.int .i64 a0, .int .i64 0]) ?_ 1 _ rfl; (with_reducible repeat (first | refine blk_drewN ?_ _ | refine blk_drew ?_ | refine blk_alloc ?_ _)); refine blk_put (cs := #[.int .i64 0, .int .i64 0]) ?_ 0 _ rfl; (with_reducible repeat (first | refine blk_drewN ?_ _ | refine blk_drew ?_ | refine blk_alloc ?_ _)); exact BK136.out) Tryz.underlying33 rfl (by kernel_rfl)) rfl ?_
 exact ⟨by first | rfl | (simp [errW_none, errW_some] <;> rfl) | (simp [*, errW_none, errW_some] <;> rfl), by repeat (first | (with_reducible first | exact HB.out | apply below_alloc | apply pw_below_drewN | apply below_drew1 | refine below_set ?_ GE136.out) | exact HB.out)⟩
def shape_Well.f (l0 : List (S35)) : Option (Bool) := (shape_Faults.f l0).bind fun t137 => (some ((t137.length : Int) == 0))
set_option maxHeartbeats 8000000 in
set_option maxRecDepth 100000 in
theorem shape_Well.calls (A0 : Option Addr) (c0 : Nat) (l0 : List (S35)) (r : Bool) (w : World) (hr0 : Kd.C k35 w A0 l0.length l0) (hc0 : l0.length ≤ c0) (h : shape_Well.f l0 = some r) :
  Calls Tryz.prog 5 #[.slice A0 l0.length c0] w fun e w' => e = .returned (.bool r) ∧ Below w.heap.size w w' := by
 have HR0 := Aside0.mk hr0
 have HC0 := Aside0.mk hc0
 clear hr0 hc0
 have HB := Aside0.mk (Below.refl w.heap.size w)
 have H : ((shape_Faults.f l0).bind fun t137 => (some ((t137.length : Int) == 0))) = some r := h
 clear h
 replace H := Option.bind_eq_some_iff.mp H
 obtain ⟨t137, A20, H⟩ := H
 replace H : (some ((t137.length : Int) == 0)) = some r := H
 have A2 := Aside0.mk A20
 clear A20
 obtain rfl := Option.some.inj H
 go_enter Tryz.func5, Tryz.ntmps5
 go_wp2_with (first | ((with_reducible refine gate_callee (f := 18) rfl ?_); refine goesL_ (some 4) rfl rfl Tryz.func18 (by kernel_rfl) rfl #[.slice A0 l0.length c0] rfl (by (try simp only [List.map_toArray, List.map_cons, List.map_nil]); first | done | rfl | (simp only [List.length_drop, List.length_take]; rfl)) ?_; (with_reducible refine (shape_Faults.calls _ _ l0 t137 _ ?side1 ?side2 A2.out).mono ?_); (case side1 => repeat (first | exact HR0.out | (with_reducible refine Kd.C_alloc ?_ _) | (with_reducible refine Kd.C_drewN ?_ _) | (with_reducible refine Kd.C_drew ?_))); (case side2 => exact HC0.out); rintro e w3 ⟨v138, rfl, ho0, hb⟩; refine ⟨_, rfl, ?_⟩; have n0_ := Aside0.mk (Kd.R_lower ho0 (below_size (by repeat (first | (with_reducible first | exact HB.out | apply below_alloc | apply pw_below_drewN | apply below_drew1) | exact HB.out)))); have n1_ := Aside0.mk (below_step (by repeat (first | (with_reducible first | exact HB.out | apply below_alloc | apply pw_below_drewN | apply below_drew1) | exact HB.out)) hb); clear HB; have HO139 := n0_; have HB := n1_; clear n0_ n1_; (try clear hb); (try clear hb2); (try clear hk); (try clear hi); (try clear ho0); obtain ⟨Ao4, co4, eo4⟩ := Kd.R_slice HO139.out; subst eo4))
 go_ret
 exact ⟨by first | rfl | (simp [errW_none, errW_some] <;> rfl) | (simp [*, errW_none, errW_some] <;> rfl), by repeat (first | (with_reducible first | exact HB.out | apply below_alloc | apply pw_below_drewN | apply below_drew1) | exact HB.out)⟩
end Go.Proofs.YtdheokololpnbaaGreatDoor.PWalk
end
section
namespace Go.Proofs.YtdheokololpnbaaGreatDoor.PWalk
open Go.RowKit Go.Proofs.YtdheokololpnbaaGreatDoorW.PrintWords Go.Proofs.YtdheokololpnbaaGreatDoorW.PrintLast Go.Proofs.YtdheokololpnbaaGreatDoorW.PrintMore
set_option linter.unusedVariables false
set_option linter.unusedSimpArgs false
attribute [local go_sem high] eqA33
def redpencilref10_Find.l0 : Nat → List (S35) → Int → Int → Int → Option (Int)
 | 0, _, _, _, _ => none
 | k + 1, x0, x5, x157000, x157001 => if x5 < (x0.length : Int) then (if 0 ≤ x5 then (if (((rd_T35 x0 x5).f0.f0) == x157000 && (((rd_T35 x0 x5).f0.f1) == x157001)) = true then (some x5) else (redpencilref10_Find.l0 k x0 (wrap64 (x5 + 1)) x157000 x157001)) else (none)) else (some (-1))
def redpencilref10_Find.f (k : Nat) (l0 : List (S35)) (a1_0 : Int) (a1_1 : Int) : Option (Int) := redpencilref10_Find.l0 k l0 0 a1_0 a1_1
set_option maxHeartbeats 8000000 in
set_option maxRecDepth 100000 in
theorem redpencilref10_Find.calls (k : Nat) (A0 : Option Addr) (c0 : Nat) (l0 : List (S35)) (a1_0 : Int) (a1_1 : Int) (r : Int) (w : World) (hr0 : Kd.C k35 w A0 l0.length l0) (hc0 : l0.length ≤ c0) (h : redpencilref10_Find.f k l0 a1_0 a1_1 = some r) :
  Calls Tryz.prog 11 #[.slice A0 l0.length c0, .agg #[.int .i64 a1_0, .int .i64 a1_1]] w fun e w' => e = .returned (.int .i64 r) ∧ Below w.heap.size w w' := by
 have hu33 := Tryz.underlying33
 have HR0 := Aside0.mk hr0
 have HC0 := Aside0.mk hc0
 clear hr0 hc0
 have HB := Aside0.mk (Below.refl w.heap.size w)
 have H : (redpencilref10_Find.l0 k l0 0 a1_0 a1_1) = some r := h
 clear h
 have H' := Aside0.mk H
 clear H
 go_enter Tryz.func11, Tryz.ntmps11
 go_wp2_with (first | ((with_reducible refine gate_dst (N := 3) rfl ?_); refine box_event ?hg (N := 3) ?hd (cs := #[.int .i64 a1_0, .int .i64 a1_1]) (t := 33) ?hr ?_; (case hd => rfl); (case hg => rfl); (case hr => first | (go_simp; done) | (go_simp; rfl)); intro gb156 hg w3 hbox hb; have n0_ := Aside0.mk (below_step (by repeat (first | (with_reducible first | exact HB.out | apply below_alloc | apply pw_below_drewN | apply below_drew1) | exact HB.out)) hb); have n1_ := Aside0.mk (hbox); have n2_ := Aside0.mk ((by rw [hg]; exact (below_size (by repeat (first | (with_reducible first | exact HB.out | apply below_alloc | apply pw_below_drewN | apply below_drew1) | exact HB.out))) : w.heap.size ≤ gb156)); have n3_ := Aside0.mk ((by rw [hg]; exact (below_size (by repeat (first | (with_reducible first | exact HB.out | apply below_alloc | apply pw_below_drewN | apply below_drew1) | exact HB.out))) : w.heap.size ≤ gb156)); clear HB; have HB := n0_; have BK156 := n1_; have GW156 := n2_; have GE156 := n3_; clear n0_ n1_ n2_ n3_; clear hb hbox hg))
 repeat (go_quiet (first | ((with_reducible refine gate_dst (N := 3) rfl ?_); refine box_event ?hg (N := 3) ?hd (cs := #[.int .i64 a1_0, .int .i64 a1_1]) (t := 33) ?hr ?_; (case hd => rfl); (case hg => rfl); (case hr => first | (go_simp; done) | (go_simp; rfl)); intro gb156 hg w3 hbox hb; have n0_ := Aside0.mk (below_step (by repeat (first | (with_reducible first | exact HB.out | apply below_alloc | apply pw_below_drewN | apply below_drew1) | exact HB.out)) hb); have n1_ := Aside0.mk (hbox); have n2_ := Aside0.mk ((by rw [hg]; exact (below_size (by repeat (first | (with_reducible first | exact HB.out | apply below_alloc | apply pw_below_drewN | apply below_drew1) | exact HB.out))) : w.heap.size ≤ gb156)); have n3_ := Aside0.mk ((by rw [hg]; exact (below_size (by repeat (first | (with_reducible first | exact HB.out | apply below_alloc | apply pw_below_drewN | apply below_drew1) | exact HB.out))) : w.heap.size ≤ gb156)); clear HB; have HB := n0_; have BK156 := n1_; have GW156 := n2_; have GE156 := n3_; clear n0_ n1_ n2_ n3_; clear hb hbox hg)); try go_wp2_with (first | ((with_reducible refine gate_dst (N := 3) rfl ?_); refine box_event ?hg (N := 3) ?hd (cs := #[.int .i64 a1_0, .int .i64 a1_1]) (t := 33) ?hr ?_; (case hd => rfl); (case hg => rfl); (case hr => first | (go_simp; done) | (go_simp; rfl)); intro gb156 hg w3 hbox hb; have n0_ := Aside0.mk (below_step (by repeat (first | (with_reducible first | exact HB.out | apply below_alloc | apply pw_below_drewN | apply below_drew1) | exact HB.out)) hb); have n1_ := Aside0.mk (hbox); have n2_ := Aside0.mk ((by rw [hg]; exact (below_size (by repeat (first | (with_reducible first | exact HB.out | apply below_alloc | apply pw_below_drewN | apply below_drew1) | exact HB.out))) : w.heap.size ≤ gb156)); have n3_ := Aside0.mk ((by rw [hg]; exact (below_size (by repeat (first | (with_reducible first | exact HB.out | apply below_alloc | apply pw_below_drewN | apply below_drew1) | exact HB.out))) : w.heap.size ≤ gb156)); clear HB; have HB := n0_; have BK156 := n1_; have GW156 := n2_; have GE156 := n3_; clear n0_ n1_ n2_ n3_; clear hb hbox hg)))
 go_loopg [5] k (fun kq v5 w' => ∃ (x5_1 : Int), v5 = .int .i64 x5_1 ∧ Aside0 (redpencilref10_Find.l0 kq l0 x5_1 a1_0 a1_1 = some r) ∧ Aside0 (kq ≤ k) ∧ Aside0 (w'.heap[gb156]? = some (.cells #[.int .i64 a1_0, .int .i64 a1_1] 33 (0, 0))) ∧ Aside0 (Below w.heap.size w w'))
 case atStart => exact ⟨(0), (by first | rfl | (simp; done) | (simp [*]; done)), H', ⟨Nat.le_refl _⟩, ⟨by (with_reducible repeat (first | refine blk_drewN ?_ _ | refine blk_drew ?_ | refine blk_alloc ?_ _)); exact BK156.out⟩, ⟨by repeat (first | (with_reducible first | exact HB.out | apply below_alloc | apply pw_below_drewN | apply below_drew1 | refine below_set ?_ GE156.out) | exact HB.out)⟩⟩
 case round =>
  clear H'
  try clear c1
  try clear p2
  obtain ⟨x5_1, rfl, HA, HK1, BK156, HB⟩ := hrel
  cases gk with
  | zero => exact absurd HA.out (by simp [redpencilref10_Find.l0])
  | succ k1 =>
   have H := HA.out
   clear HA
   simp only [redpencilref10_Find.l0] at H
   by_cases c4 : x5_1 < (l0.length : Int)
   ·
    rw [if_pos c4] at H
    have c4b0 : decide (x5_1 < (l0.length : Int)) = true := decide_eq_true c4
    clear c4
    by_cases c5 : 0 ≤ x5_1
    ·
     rw [if_pos c5] at H
     have c5b0 : decide (0 ≤ x5_1) = true := decide_eq_true c5
     clear c5
     by_cases c6 : (((rd_T35 l0 x5_1).f0.f0) == a1_0 && (((rd_T35 l0 x5_1).f0.f1) == a1_1)) = true
     ·
      rw [if_pos c6] at H
      have c6b0 : (((rd_T35 l0 x5_1).f0.f0) == a1_0 && (((rd_T35 l0 x5_1).f0.f1) == a1_1)) = true := c6
      (try (have c6b1 : decide (((rd_T35 l0 x5_1).f0.f0) = a1_0 && (((rd_T35 l0 x5_1).f0.f1) == a1_1)) = true := by simpa using c6))
      (try (have c6b2 : (((rd_T35 l0 x5_1).f0.f0) == a1_0 && (((rd_T35 l0 x5_1).f0.f1) == a1_1)) = true := by simpa using c6))
      clear c6
      obtain rfl := Option.some.inj H
      have p157 : 0 ≤ (x5_1 : Int) := of_decide_eq_true (by first | (with_reducible assumption) | assumption)
      have q157 : x5_1 < (l0.length : Int) := of_decide_eq_true (by first | (with_reducible assumption) | assumption)
      obtain ⟨ad157, e157, hx157_0, hx157_1, hx157_2, hx157_3, hx157_4, hx157_5⟩ := at_T35 HR0.out x5_1 p157 q157
      cases e157
      replace hx157_0 := (HB.out.cell (World.block_lt_of_cell? w _ hx157_0)).trans hx157_0
      replace hx157_1 := (HB.out.cell (World.block_lt_of_cell? w _ hx157_1)).trans hx157_1
      replace hx157_2 := (HB.out.cell (World.block_lt_of_cell? w _ hx157_2)).trans hx157_2
      replace hx157_3 := (HB.out.cell (World.block_lt_of_cell? w _ hx157_3)).trans hx157_3
      replace hx157_4 := (HB.out.cell (World.block_lt_of_cell? w _ hx157_4)).trans hx157_4
      replace hx157_5 := (HB.out.cell (World.block_lt_of_cell? w _ hx157_5)).trans hx157_5
      replace p157 := eq_true p157
      replace q157 := eq_true q157
      have hcz7_0 : wr.cell? ⟨gb156, 0, none⟩ = some (.int .i64 a1_0) := (blk_cell BK156.out 0).trans rfl
      have hcz7_1 : wr.cell? ⟨gb156, 1, none⟩ = some (.int .i64 a1_1) := (blk_cell BK156.out 1).trans rfl
      have hfz7_0 := blk_frozen BK156.out 0
      have hfz7_1 := blk_frozen BK156.out 1
      go_wp2
      repeat (go_quiet (fail); try go_wp2)
      go_ret
      exact ⟨by first | rfl | (simp [errW_none, errW_some] <;> rfl) | (simp [*, errW_none, errW_some] <;> rfl), by repeat (first | (with_reducible first | exact HB.out | apply below_alloc | apply pw_below_drewN | apply below_drew1 | refine below_set ?_ GE156.out) | exact HB.out)⟩
     ·
      rw [if_neg c6] at H
      have c6b0 : (((rd_T35 l0 x5_1).f0.f0) == a1_0 && (((rd_T35 l0 x5_1).f0.f1) == a1_1)) = false := by simpa using c6
      (try (have c6b1 : decide (((rd_T35 l0 x5_1).f0.f0) = a1_0 && (((rd_T35 l0 x5_1).f0.f1) == a1_1)) = false := by simpa using c6))
      (try (have c6b2 : (((rd_T35 l0 x5_1).f0.f0) == a1_0 && (((rd_T35 l0 x5_1).f0.f1) == a1_1)) = false := by simpa using c6))
      (try (have c6b3 : ¬ (((rd_T35 l0 x5_1).f0.f0) = a1_0 && (((rd_T35 l0 x5_1).f0.f1) == a1_1)) := by simpa using c6))
      clear c6
      have H' := Aside0.mk H
      clear H
      have p157 : 0 ≤ (x5_1 : Int) := of_decide_eq_true (by first | (with_reducible assumption) | assumption)
      have q157 : x5_1 < (l0.length : Int) := of_decide_eq_true (by first | (with_reducible assumption) | assumption)
      obtain ⟨ad157, e157, hx157_0, hx157_1, hx157_2, hx157_3, hx157_4, hx157_5⟩ := at_T35 HR0.out x5_1 p157 q157
      cases e157
      replace hx157_0 := (HB.out.cell (World.block_lt_of_cell? w _ hx157_0)).trans hx157_0
      replace hx157_1 := (HB.out.cell (World.block_lt_of_cell? w _ hx157_1)).trans hx157_1
      replace hx157_2 := (HB.out.cell (World.block_lt_of_cell? w _ hx157_2)).trans hx157_2
      replace hx157_3 := (HB.out.cell (World.block_lt_of_cell? w _ hx157_3)).trans hx157_3
      replace hx157_4 := (HB.out.cell (World.block_lt_of_cell? w _ hx157_4)).trans hx157_4
      replace hx157_5 := (HB.out.cell (World.block_lt_of_cell? w _ hx157_5)).trans hx157_5
      replace p157 := eq_true p157
      replace q157 := eq_true q157
      have hcz8_0 : wr.cell? ⟨gb156, 0, none⟩ = some (.int .i64 a1_0) := (blk_cell BK156.out 0).trans rfl
      have hcz8_1 : wr.cell? ⟨gb156, 1, none⟩ = some (.int .i64 a1_1) := (blk_cell BK156.out 1).trans rfl
      have hfz8_0 := blk_frozen BK156.out 0
      have hfz8_1 := blk_frozen BK156.out 1
      go_wp2
      repeat (go_quiet (fail); try go_wp2)
      go_roundg k1
      case measure => have := HK1.out; omega
      case rel => exact ⟨(wrap64 (x5_1 + 1)), (by first | rfl | (simp; done) | (simp [*]; done)), H', ⟨by have := HK1.out; omega⟩, ⟨by (with_reducible repeat (first | refine blk_drewN ?_ _ | refine blk_drew ?_ | refine blk_alloc ?_ _)); exact BK156.out⟩, ⟨by repeat (first | (with_reducible first | exact HB.out | apply below_alloc | apply pw_below_drewN | apply below_drew1 | refine below_set ?_ GE156.out) | exact HB.out)⟩⟩
    ·
     rw [if_neg c5] at H
     exact absurd H (by simp)
   ·
    rw [if_neg c4] at H
    have c4b0 : decide (x5_1 < (l0.length : Int)) = false := decide_eq_false c4
    clear c4
    obtain rfl := Option.some.inj H
    go_wp2
    repeat (go_quiet (fail); try go_wp2)
    go_ret
    exact ⟨by first | rfl | (simp [errW_none, errW_some] <;> rfl) | (simp [*, errW_none, errW_some] <;> rfl), by repeat (first | (with_reducible first | exact HB.out | apply below_alloc | apply pw_below_drewN | apply below_drew1 | refine below_set ?_ GE156.out) | exact HB.out)⟩
end Go.Proofs.YtdheokololpnbaaGreatDoor.PWalk
end
