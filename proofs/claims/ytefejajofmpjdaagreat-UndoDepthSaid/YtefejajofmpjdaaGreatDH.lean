/-
  As many changes as can be undone, and more. Part 8 of 10.
-/
import Derived.Test.YtefejajofmpjdaaGreatDG
section
namespace Go.Proofs.YtefejajofmpjdaaGreat.PWalk
open Go.RowKit Go.Proofs.YtefejajofmpjdaaGreatW.PrintWords Go.Proofs.YtefejajofmpjdaaGreatW.PrintLast Go.Proofs.YtefejajofmpjdaaGreatW.PrintMore
set_option linter.unusedVariables false
set_option linter.unusedSimpArgs false
open Go.Shelf
attribute [local go_sem] Oper.semAt_some
section
def nowM (l : List Node) : List (Dot × Dot) := l.foldl (fun m x => if x.f3 = 0 then m else MapLaw.mset m x.f1 x.f0) []
theorem nowM_succ {l : List Node} {k : Nat} {x : Node} (h : l[k]? = some x) : nowM (l.take (k + 1)) = if x.f3 = 0 then nowM (l.take k) else MapLaw.mset (nowM (l.take k)) x.f1 x.f0 := by
 obtain ⟨hk, e⟩ := List.getElem?_eq_some_iff.1 h
 unfold nowM
 rw [List.take_succ_eq_append_getElem hk, List.foldl_append, e]; rfl
def renD (now : List (Dot × Dot)) (d : Dot) : Dot := (MapLaw.mget now d).getD d
def renL (now : List (Dot × Dot)) (x : LostE) : LostE := ⟨renD now x.f0, x.f1⟩
def renP (now : List (Dot × Dot)) (c : ChgP) : ChgP := ⟨c.f0.map (renD now), c.f1.map (renL now)⟩
def renC (l : List Node) (us : List ChgP) : List ChgP := us.map (renP (nowM l))
def parL {α : Type} (f : α → α) (j : Nat) (l : List α) : List α := (l.take j).map f ++ l.drop j
theorem par_get {α : Type} (f : α → α) {j : Nat} {l : List α} {x : α} (h : l[j]? = some x) : (parL f j l)[j]? = some x := by
 obtain ⟨hj, e⟩ := List.getElem?_eq_some_iff.1 h
 unfold parL
 rw [List.getElem?_append_right (by simp; omega), List.getElem?_drop]
 simp only [List.length_map, List.length_take]
 rw [show j + (j - min j l.length) = j by omega, h]
theorem par_len {α : Type} (f : α → α) (j : Nat) (l : List α) : (parL f j l).length = l.length := by
 unfold parL; simp; omega
theorem par_set {α : Type} (f : α → α) {j : Nat} {l : List α} {x : α} (h : l[j]? = some x) : (parL f j l).set j (f x) = parL f (j + 1) l := by
 obtain ⟨hj, e⟩ := List.getElem?_eq_some_iff.1 h
 unfold parL
 rw [List.set_append_right _ _ (by simp; omega)]
 simp only [List.length_map, List.length_take]
 rw [show j - min j l.length = 0 by omega, List.drop_eq_getElem_cons hj, List.set_cons_zero, List.take_succ_eq_append_getElem hj, List.map_append, e]
 simp
theorem par_same {α : Type} (f : α → α) {j : Nat} {l : List α} {x : α} (h : l[j]? = some x) (e : f x = x) : parL f j l = parL f (j + 1) l := by
 rw [← par_set f h, e]
 refine List.ext_getElem? fun i => ?_
 rw [List.getElem?_set]
 split
 ·
  next hi =>
  subst hi
  split
  ·
   exact par_get f h
  ·
   next hn =>
   have := (List.getElem?_eq_some_iff.1 (par_get f h)).1
   omega
 ·
  rfl
theorem par_all {α : Type} (f : α → α) (l : List α) : parL f l.length l = l.map f := by unfold parL; simp
theorem ren_none {now : List (Dot × Dot)} {d : Dot} (h : (MapLaw.mget now d).isSome = false) : renD now d = d := by
 unfold renD; cases e : MapLaw.mget now d with
 | none => rfl
 | some x => rw [e] at h; cases h
theorem ren_some {now : List (Dot × Dot)} {d n : Dot} (h : (MapLaw.mget now d).isSome = true) (hn : (MapLaw.mget now d).getD ⟨0, 0⟩ = n) : renD now d = n := by
 unfold renD; cases e : MapLaw.mget now d with
 | none => rw [e] at h; cases h
 | some x => rw [e] at hn; exact hn
theorem lk_dot (m : List (Dot × Dot)) (d : Dot) {o : Dot} (h : (MapLaw.mget m d).getD ⟨0, 0⟩ = o) : ((MapLaw.mget m d).map vDot).getD (.agg #[.int .i64 0, .int .i64 0]) = .agg #[.int .i64 o.f0, .int .i64 o.f1] := by
 subst h
 cases MapLaw.mget m d <;> rfl
section
variable {ops : Array Oper} {rest : List Oper} {o : Oper} {a : Act} {Q : Exit → Act → World → Prop}
/-- The operation: a dot is stored into a row of dots. -/
theorem wpList_putDot (hgd : o.guard = none) (s x : Operand) (ho : o.op = .store 39 s x) (hd : o.dst = none) {w : World} {base g n cap i : Nat} {l : List Dot} (y : Dot)
  (h : RD w base (.slice (some ⟨g, 0, none⟩) n cap) l) (hi : i < n) (hs : a.eval s = .pointer (some ⟨g, i * 2, none⟩)) (hx : a.eval x = vDot y)
  (hk : ∀ w', RD w' base (.slice (some ⟨g, 0, none⟩) n cap) (l.set i y) → w.grownBy w' (some g) → wpList Tryz.prog ops Q rest a w') : wpList Tryz.prog ops Q (o :: rest) a w := by
 obtain ⟨h1, h2, h3⟩ := RD.C h
 obtain ⟨z, hz⟩ : ∃ z, l[i]? = some z := ⟨_, List.getElem?_eq_getElem (by omega)⟩
 obtain ⟨ad, e, c0, c1⟩ := dot_row h3 (Below.refl _ w) i z hz
 cases e
 rw [show (⟨g, 0, none⟩ : Addr).add (i * 2) = ⟨g, i * 2, none⟩ by rw [add_lit, Nat.zero_add]] at c0 c1
 obtain ⟨i0, hi0, hz0, hz1, hz2⟩ := info_parts infoD
 refine Kd.R_store k39 (w0 := w) base hd hgd 39 s x ho 39 (i : Int) 0 l y (vDot y) [.int .i64 y.f0, .int .i64 y.f1] [.int .i64 z.f0, .int .i64 z.f1] (fun _ => True) (fun _ => False) hs rfl hx rfl (by rw [hi0]; show some i0.size = some 2; rw [hz1]) (by intro q hq; simp at hq; rcases hq with rfl | rfl <;> rfl) h (by omega) (by omega) rfl ?_ (Nat.le_refl 2) (k39_mkM _ _ _ y) (fun _ hk => hk.elim) (Below.refl _ _) ?_
 ·
  intro j u hu
  match j, hu with
  | 0, hu => cases hu; exact c0
  | 1, hu => cases hu; exact c1
  | j + 2, hu => simp at hu
 ·
  intro w1 hr _ hg
  exact hk w1 hr hg
/-- The operation: a dot is stored into an element of a row of lost characters. -/
theorem wpList_putLost (hgd : o.guard = none) (s x : Operand) (ho : o.op = .store 39 s x) (hd : o.dst = none) {w : World} {base g n cap i : Nat} {l : List LostE} {z : LostE} (y : Dot)
  (h : RL w base (.slice (some ⟨g, 0, none⟩) n cap) l) (hi : i < n) (hz : l[i]? = some z) (hs : a.eval s = .pointer (some ⟨g, i * 3, none⟩)) (hx : a.eval x = vDot y)
  (hk : ∀ w', RL w' base (.slice (some ⟨g, 0, none⟩) n cap) (l.set i ⟨y, z.f1⟩) → w.grownBy w' (some g) → wpList Tryz.prog ops Q rest a w') : wpList Tryz.prog ops Q (o :: rest) a w := by
 have h3 := (Kd.R_reads' h).2.2
 obtain ⟨ad, e, c0, c1, c2⟩ := lost_at h3 (Below.refl _ w) i z hz
 cases e
 rw [show (⟨g, 0, none⟩ : Addr).add (i * 3) = ⟨g, i * 3, none⟩ by rw [add_lit, Nat.zero_add]] at c0 c1 c2
 obtain ⟨i0, hi0, hz0, hz1, hz2⟩ := info_parts infoD
 refine Kd.R_store k68 (w0 := w) base hd hgd 39 s x ho 68 (i : Int) 0 l ⟨y, z.f1⟩ (vDot y) [.int .i64 y.f0, .int .i64 y.f1] [.int .i64 z.f0.f0, .int .i64 z.f0.f1, .int .i32 z.f1] (fun _ => True) (fun _ => False) hs rfl hx rfl (by rw [hi0]; show some i0.size = some 2; rw [hz1]) (by intro q hq; simp at hq; rcases hq with rfl | rfl <;> rfl) h (by omega) (by omega) rfl ?_ (show 0 + 2 ≤ 3 by decide) (k68_mkM _ _ _ ⟨y, z.f1⟩) (fun _ hk => hk.elim) (Below.refl _ _) ?_
 ·
  intro j u hu
  match j, hu with
  | 0, hu => cases hu; exact c0
  | 1, hu => cases hu; exact c1
  | 2, hu => cases hu; exact c2
  | j + 3, hu => simp at hu
 ·
  intro w1 hr _ hg
  exact hk w1 hr hg
end
/-- What the loops of undo.renamed keep. -/
structure RenF (w : World) (ga g10 : Nat) (now : List (Dot × Dot)) (u vm vg : Value) (os : List ChgP) (m : List Dot) (g : List LostE) (V : World) : Prop where
 mp : MapLaw.MapIs vDot vDot V ga now
 bx : V.heap[g10]? = some (chgC vm vg)
 ge : w.heap.size ≤ g10
 rn : Kd.Q KC 28 V w.heap.size (fun k => some k ≠ vm.ownBlock ∧ some k ≠ vg.ownBlock) u os
 rd : RD V w.heap.size vm m
 rl : RL V w.heap.size vg g
 below : Below w.heap.size w V
section
variable {w V V2 : World} {ga g10 : Nat} {now : List (Dot × Dot)} {u vm vg : Value} {os : List ChgP} {m m2 : List Dot} {g g2 : List LostE}
theorem RenF.more (h : RenF w ga g10 now u vm vg os m g V) (hb : Below V.heap.size V V2) : RenF w ga g10 now u vm vg os m g V2 := ⟨h.mp.below hb, zab h.bx hb, h.ge, Kd.Q_below h.rn hb, RD.below' h.rd hb, Kd.R_below h.rl hb, za8 h.below hb⟩
theorem map_no {k : Nat} {q : List (Dot × Dot)} {cs : Array Value} {t : TypeId} (h : MapLaw.MapIs vDot vDot V ga q) (hk : V.heap[k]? = some (.cells cs t (0, 0))) : ga ≠ k := fun e => by
 obtain ⟨es, cl, hm, _⟩ := h
 rw [e, hk] at hm; cases hm
theorem RenF.putD (h : RenF w ga g10 now u vm vg os m g V) (hr : RD V2 w.heap.size vm m2) (hg : V.grownBy V2 vm.ownBlock) : RenF w ga g10 now u vm vg os m2 g V2 := by
 have ne : ∀ {k : Nat} {cs : Array Value} {t : TypeId}, V.heap[k]? = some (.cells cs t (0, 0)) → t ≠ 39 → some k ≠ vm.ownBlock := fun hk ht e => by
  obtain ⟨_, cur, hc⟩ := RD.block h.rd e.symm
  rw [hk] at hc; exact ht (Obj.cells.inj (Option.some.inj hc)).2.1
 refine ⟨h.mp.same (hg.block _ h.mp.lt fun e => ?_), blk_grown h.bx hg (ne h.bx (by decide)), h.ge, Kd.Q_grown h.rn hg (fun k hk => hk.1), hr, RL.keep h.rl fun k hk => ?_, h.below.grown hg h.below.size fun k e => (RD.block h.rd e).1⟩
 ·
  obtain ⟨_, cur, hc⟩ := RD.block h.rd e.symm
  exact map_no h.mp hc rfl
 ·
  obtain ⟨_, cur, hc⟩ := RL.block h.rl hk
  exact hg.block _ (zae hc) (ne hc (by decide))
theorem RenF.putL (h : RenF w ga g10 now u vm vg os m g V) (hr : RL V2 w.heap.size vg g2) (hg : V.grownBy V2 vg.ownBlock) : RenF w ga g10 now u vm vg os m g2 V2 := by
 have ne : ∀ {k : Nat} {cs : Array Value} {t : TypeId}, V.heap[k]? = some (.cells cs t (0, 0)) → t ≠ 68 → some k ≠ vg.ownBlock := fun hk ht e => by
  obtain ⟨_, cur, hc⟩ := RL.block h.rl e.symm
  rw [hk] at hc; exact ht (Obj.cells.inj (Option.some.inj hc)).2.1
 refine ⟨h.mp.same (hg.block _ h.mp.lt fun e => ?_), blk_grown h.bx hg (ne h.bx (by decide)), h.ge, Kd.Q_grown h.rn hg (fun k hk => hk.2), RD.keep h.rd fun k hk => ?_, hr, h.below.grown hg h.below.size fun k e => (RL.block h.rl e).1⟩
 ·
  obtain ⟨_, cur, hc⟩ := RL.block h.rl e.symm
  exact map_no h.mp hc rfl
 ·
  obtain ⟨_, cur, hc⟩ := RD.block h.rd hk
  exact hg.block _ (zae hc) (ne hc (by decide))
end
theorem chg_at {w wr : World} {A : Option Addr} {n : Nat} {xs : List ChgP} (h : Kd.C KC w A n xs) (hb : Below w.heap.size w wr) (k : Nat) (x : ChgP) (hk : xs[k]? = some x) :
  ∃ ad Am cm Ag cg, A = some ad ∧ wr.cell? (ad.add (k * 2)) = some (.slice Am x.f0.length cm) ∧ wr.cell? ⟨(ad.add (k * 2)).block, (ad.add (k * 2)).off + 1, none⟩ = some (.slice Ag x.f1.length cg) ∧ Kd.C k39 w Am x.f0.length x.f0 ∧ Kd.C k68 w Ag x.f1.length x.f1 ∧ x.f0.length ≤ cm ∧ x.f1.length ≤ cg := by
 have hl := Kd.C_len h
 have hlt := (List.getElem?_eq_some_iff.1 hk).1
 obtain ⟨ad, Am, cm, Ag, cg, e, h0, h1, k0, h2, k1, h3⟩ := at_T28 h (k : Int) (by omega) (by omega)
 have hd : rd_T28 xs (k : Int) = x := by simp [rd_T28, hk]
 rw [hd] at h0 h1 h2 h3 k0 k1
 simp only [Int.toNat_natCast] at h0 h1
 exact ⟨ad, Am, cm, Ag, cg, e, zal hb h0, zal hb h1, h2, h3, k0, k1⟩
end
section
theorem own_form {α : Type} {d : Kd α} {t : TypeId} {W : World} {base : Nat} {ok : Nat → Prop} {A : Option Addr} {n c : Nat} {xs : List α} (h : Kd.R d t W base ok (.slice A n c) xs) (hp : 0 < xs.length) : ∃ g, A = some ⟨g, 0, none⟩ := by
 obtain ⟨_, inner, ho, _⟩ := h
 rcases ho.2 with ⟨e, h2⟩ | ⟨g, cap, cur, e, _⟩
 ·
  omega
 ·
  cases e; exact ⟨g, rfl⟩
set_option maxHeartbeats 4000000 in
set_option maxRecDepth 100000 in
theorem renamed_call (A0 : Option Addr) (c0 : Nat) (us : List ChgP) (A1 : Option Addr) (c1 : Nat) (dl : List Node) (w : World) (hru : Kd.C KC w A0 us.length us) (hrd : Kd.C k42 w A1 dl.length dl)
  (hl : us.length ≤ 1000 ∧ dl.length ≤ 1000000 ∧ ∀ c ∈ us, c.f0.length ≤ 1000000 ∧ c.f1.length ≤ 1000000) :
  Calls Tryz.prog 53 #[.slice A0 us.length c0, .slice A1 dl.length c1] w fun e w' => ∃ v, e = .returned v ∧ RC w' w.heap.size v (renC dl us) ∧ Below w.heap.size w w' := by
 have HRU := za0.mk hru
 have HRD := za0.mk hrd
 have HL := za0.mk hl
 have hu := Tryz.underlying42
 have hu2 := Tryz.underlying39
 have hu3 := Tryz.underlying28
 have hu4 := Tryz.underlying68
 have hmm := @run_makeMap Tryz.prog
 have HM0 := za0.mk (MapLaw.MapIs.new (enc := vDot) (val := vDot) w)
 have HB0 := za0.mk (za2 (Below.refl _ w) (.map #[] 0))
 obtain ⟨ga, Hga⟩ : ∃ g, za0 (w.heap.size = g) := ⟨_, ⟨rfl⟩⟩
 rw [Hga.out] at HM0
 obtain ⟨n, Hn⟩ : ∃ n, za0 (us.length = n) := ⟨_, ⟨rfl⟩⟩
 obtain ⟨nd, Hnd⟩ : ∃ n, za0 (dl.length = n) := ⟨_, ⟨rfl⟩⟩
 rw [Hn.out] at HRU HL ⊢
 rw [Hnd.out] at HRD HL ⊢
 clear hru hrd hl
 go_enter Tryz.func53, Tryz.ntmps53
 go_wp2
 rw [Hga.out]
 go_loopw [22] (fun i wr => ∃ k : Nat, i = .int .i64 k ∧ k ≤ nd ∧ za0 (MapLaw.MapIs vDot vDot wr ga (nowM (dl.take k))) ∧ za0 (Below w.heap.size w wr)) (fun i _ => nd - (intOf i).toNat)
 case atStart => exact ⟨0, rfl, Nat.zero_le _, HM0, HB0⟩
 case round =>
  obtain ⟨k, rfl, hk, HM, HB⟩ := hrel
  by_cases hlt : k < nd
  ·
   obtain ⟨x, Hx⟩ : ∃ x, za0 (dl[k]? = some x) := ⟨_, ⟨List.getElem?_eq_getElem (by rw [Hnd.out]; exact hlt)⟩⟩
   have HST := za0.mk (nowM_succ Hx.out)
   obtain ⟨ad, e, y0, y1, y2, y3, y4, y5⟩ := node_at HRD.out HB.out k x Hx.out
   subst e
   have hkn : k < nd ∧ nd ≤ 1000000 := ⟨hlt, HL.out.2.1⟩
   go_upto_region 5 with (fail)
   have hb0 := za2 (Below.refl wr.heap.size wr) (boxN x)
   have HX := za0.mk (zaj wr (boxN x))
   have HM := za0.mk (HM.out.below hb0)
   have HB := za0.mk (za8 HB.out hb0)
   clear y0 y1 y2 y3 y4 y5 hb0 hkn
   generalize wr.alloc (boxN x) = V1 at *
   generalize wr.heap.size = gx at *
   obtain ⟨x0, x1, x2, x3, x4, x5⟩ := box_six HX.out
   have hkn : k < nd ∧ nd ≤ 1000000 := ⟨hlt, HL.out.2.1⟩
   by_cases hx : x.f3 = 0
   ·
    have hq : (x.f3 != 0) = false := by rw [hx]; rfl
    have HM : za0 (MapLaw.MapIs vDot vDot V1 ga (nowM (dl.take (k + 1)))) := ⟨by rw [HST.out, if_pos hx]; exact HM.out⟩
    clear hx
    go_wp2
    go_roundw
    case rel => exact ⟨k + 1, by go_num, by omega, HM, HB⟩
    case measure => simp [intOf]; omega
   ·
    have hq : (x.f3 != 0) = true := bne_iff_ne.2 hx
    have HUX := za0.mk hx
    clear hx
    go_wp2_with (first | (at_mapUpdate; (refine MapLaw.wpList_update rfl _ _ _ _ rfl dotKey Tryz.underlying120 x.f1 x.f0 rfl rfl rfl HM.out ?_); intro W5 hM5 hg5) | fail)
    have HM : za0 (MapLaw.MapIs vDot vDot W5 ga (nowM (dl.take (k + 1)))) := ⟨by rw [HST.out, if_neg HUX.out]; exact hM5⟩
    have HB := za0.mk (HB.out.grown hg5 HB.out.size (fun q e => by have := Option.some.inj e; have := Hga.out; omega))
    clear x0 x1 x2 x3 x4 x5 hM5 hg5
    go_roundw
    case rel => exact ⟨k + 1, by go_num, by omega, HM, HB⟩
    case measure => simp [intOf]; omega
  obtain rfl : k = nd := by omega
  rw [List.take_of_length_le (Nat.le_of_eq Hnd.out)] at HM
  obtain ⟨now, Hnow⟩ : ∃ q, za0 (nowM dl = q) := ⟨_, ⟨rfl⟩⟩
  rw [Hnow.out] at HM
  have HR0 : za0 (RC wr w.heap.size (.slice none 0 0) ((us.take 0).map (renP now))) := ⟨Kd.Q_nil _ _ _ _ _⟩
  clear HM0 HB0
  go_wp2
  generalize wr = U1 at *
  go_loopw [8, 37] (fun s i wr => ∃ k : Nat, i = .int .i64 k ∧ k ≤ n ∧ za0 (RC wr w.heap.size s ((us.take k).map (renP now))) ∧ za0 (MapLaw.MapIs vDot vDot wr ga now) ∧ za0 (Below w.heap.size w wr)) (fun _ i _ => n - (intOf i).toNat)
  case atStart => exact ⟨0, rfl, Nat.zero_le _, HR0, HM, HB⟩
  case round =>
   clear HR0 HM HB
   obtain ⟨q, rfl, hq, HR, HM, HB⟩ := hrel
   by_cases hlt : q < n
   ·
    obtain ⟨c, Hc⟩ : ∃ x, za0 (us[q]? = some x) := ⟨_, ⟨List.getElem?_eq_getElem (by rw [Hn.out]; exact hlt)⟩⟩
    have HTK : za0 ((us.take (q + 1)).map (renP now) = (us.take q).map (renP now) ++ [renP now c]) := ⟨by
     obtain ⟨hk', e⟩ := List.getElem?_eq_some_iff.1 Hc.out
     rw [List.take_succ_eq_append_getElem hk', e, List.map_append]; rfl⟩
    obtain ⟨ad, Am, cm, Ag, cg, e, y0, y1, hcm, hcg, _, _⟩ := chg_at HRU.out HB.out q c Hc.out
    subst e
    have hcl := HL.out.2.2 c (List.mem_of_getElem? Hc.out)
    have HCP := za0.mk (fun W (hb : Below w.heap.size w W) => copied_call Am cm c.f0 Ag cg c.f1 W (Kd.C_below hcm hb) (Kd.C_below hcg hb) hcl)
    have HCL := za0.mk hcl
    obtain ⟨os, Hos⟩ : ∃ l, za0 ((us.take q).map (renP now) = l) := ⟨_, ⟨rfl⟩⟩
    have HOL : za0 (os.length ≤ 1000000) := ⟨by rw [← Hos.out, List.length_map, List.length_take]; have := HL.out.1; omega⟩
    rw [Hos.out] at HR HTK
    obtain ⟨nm, Hnm⟩ : ∃ k, za0 (c.f0.length = k) := ⟨_, ⟨rfl⟩⟩
    obtain ⟨ng, Hng⟩ : ∃ k, za0 (c.f1.length = k) := ⟨_, ⟨rfl⟩⟩
    rw [Hnm.out] at y0 HCP HCL
    rw [Hng.out] at y1 HCP HCL
    clear hcm hcg hcl Hos
    have hkn : q < n ∧ n ≤ 1000 := ⟨hlt, HL.out.1⟩
    go_upto_region 12 with (fail)
    have hba := za2 (Below.refl _ wr) (chgC (.slice Am nm cm) (.slice Ag ng cg))
    have HX := za0.mk (zaj wr (chgC (.slice Am nm cm) (.slice Ag ng cg)))
    have HRB := za0.mk (Kd.Q_below (Kd.Q_mono (Kd.Q_bound HR.out) (ok' := fun k => k < wr.heap.size) (fun k hk => hk.2.2.1)) hba)
    have HM := za0.mk (HM.out.below hba)
    have HGE := za0.mk HB.out.size
    have HB := za0.mk (za8 HB.out hba)
    have HGX : za0 (wr.heap.size < (wr.alloc (chgC (.slice Am nm cm) (.slice Ag ng cg))).heap.size) := ⟨by simp⟩
    clear hba y0 y1 HR
    generalize wr.alloc (chgC (.slice Am nm cm) (.slice Ag ng cg)) = V1 at *
    generalize wr.heap.size = gx at *
    have z0 : V1.cell? ⟨gx, 0, none⟩ = some (.slice Am nm cm) := (za4 HX.out 0).trans rfl
    have z1 : V1.cell? ⟨gx, 1, none⟩ = some (.slice Ag ng cg) := (za4 HX.out 1).trans rfl
    go_wp2_with fail
    clear z0 z1
    refine (HCP.out V1 HB.out).mono ?_
    rintro e V2 ⟨vm, vg, rfl, hrm, hrg, hb⟩
    obtain ⟨A3, c3, rfl⟩ := RD.slice hrm
    obtain ⟨A4, c4, rfl⟩ := Kd.R_slice hrg
    rw [Hnm.out] at hrm ⊢
    rw [Hng.out] at hrg ⊢
    have HX := za0.mk (zab HX.out hb)
    have HRM := za0.mk hrm
    have HRG := za0.mk hrg
    have HM := za0.mk (HM.out.below hb)
    have HRB := za0.mk (Kd.Q_below HRB.out hb)
    have HB := za0.mk (za8 HB.out hb)
    clear hb hrm hrg HCP
    go_upto_region 13 with (first | (refine zat rfl _ _ rfl rfl HX.out (.slice A3 nm c3) (.slice A4 ng c4) rfl rfl rfl rfl ?_; intro V3 hz1 hg1) | fail)
    have HF0 : za0 (RenF w ga gx now u8 (.slice A3 nm c3) (.slice A4 ng c4) os (parL (renD now) 0 c.f0) c.f1 V3) := ⟨by
     have hgo : ∀ {k : Nat}, V1.heap.size ≤ k → some k ≠ some gx := fun hk e => by have := Option.some.inj e; have := HGX.out; omega
     refine ⟨HM.out.same (hg1.block _ HM.out.lt fun e => map_no HM.out HX.out (Option.some.inj e)), hz1, HGE.out, Kd.Q_mono (Kd.Q_grown HRB.out hg1 fun k hk e => by have := Option.some.inj e; omega) (fun k hk => ⟨fun e => ?_, fun e => ?_⟩), Kd.R_lower (RD.keep HRM.out fun k hk => hg1.block k (RD.lt HRM.out hk) (hgo (RD.block HRM.out hk).1)) (by have := HGX.out; have := HGE.out; omega), Kd.R_lower (RL.keep HRG.out fun k hk => hg1.block k (by obtain ⟨_, cur, hc⟩ := RL.block HRG.out hk; exact zae hc) (hgo (RL.block HRG.out hk).1)) (by have := HGX.out; have := HGE.out; omega), grown_on hg1 HB.out fun k e => by have := Option.some.inj e; have := HGE.out; omega⟩
     ·
      have := (RD.block HRM.out e.symm).1; have := HGX.out; omega
     ·
      have := (RL.block HRG.out e.symm).1; have := HGX.out; omega
     ⟩
    have HCI : za0 (parL (renL now) 0 c.f1 = c.f1 ∧ parL (renD now) nm c.f0 = c.f0.map (renD now) ∧ parL (renL now) ng c.f1 = c.f1.map (renL now)) := ⟨⟨by unfold parL; simp, by rw [← Hnm.out]; exact par_all _ _, by rw [← Hng.out]; exact par_all _ _⟩⟩
    clear hz1 hg1 HX HRB HM HB HRM HRG HGX HGE
    have z0 : V3.cell? ⟨gx, 0, none⟩ = some (.slice A3 nm c3) := (za4 HF0.out.bx 0).trans rfl
    go_wp2
    clear z0 hkn
    go_loopw [46] (fun i wr => ∃ j : Nat, i = .int .i64 j ∧ j ≤ nm ∧ za0 (RenF w ga gx now u8 (.slice A3 nm c3) (.slice A4 ng c4) os (parL (renD now) j c.f0) c.f1 wr)) (fun i _ => nm - (intOf i).toNat)
    case atStart => exact ⟨0, rfl, Nat.zero_le _, HF0⟩
    case round =>
     clear HF0
     obtain ⟨j, rfl, hj, HF⟩ := hrel
     by_cases hjl : j < nm
     ·
      obtain ⟨x, Hx⟩ : ∃ x, za0 (c.f0[j]? = some x) := ⟨_, ⟨List.getElem?_eq_getElem (by rw [Hnm.out]; exact hjl)⟩⟩
      obtain ⟨gm, rfl⟩ := own_form HF.out.rd (by rw [par_len, Hnm.out]; omega)
      obtain ⟨a9, e, y0, y1⟩ := dot_row (RD.C HF.out.rd).2.2 (Below.refl _ wr) j x (par_get _ Hx.out)
      cases e
      rw [show (⟨gm, 0, none⟩ : Addr).add (j * 2) = ⟨gm, j * 2, none⟩ by rw [add_lit, Nat.zero_add]] at y0 y1
      obtain ⟨y, Hy⟩ : ∃ o, za0 ((MapLaw.mget now x).getD ⟨0, 0⟩ = o) := ⟨_, ⟨rfl⟩⟩
      obtain ⟨is, His⟩ : ∃ b, za0 ((MapLaw.mget now x).isSome = b) := ⟨_, ⟨rfl⟩⟩
      have HKA := za0.mk (HF.out.mp.below (za2 (Below.refl _ wr) (dotC x)))
      have hkn : j < nm ∧ nm ≤ 1000000 := ⟨hjl, HCL.out.1⟩
      go_upto_region 17 with (first | (at_lookup; refine MapLaw.wpList_lookup rfl _ _ _ true rfl dotKey Tryz.underlying120 (z := .agg #[.int .i64 0, .int .i64 0]) Tryz.zeroValue39 x rfl rfl HKA.out (lk_dot _ _ Hy.out) His.out ?_) | fail)
      have HY := za0.mk (zaj (wr.alloc (dotC x)) (dotC y))
      rw [World.size_alloc] at HY
      have HF := za0.mk (HF.out.more (za8 (za2 (Below.refl _ wr) (dotC x)) (za2 (Below.refl _ (wr.alloc (dotC x))) (dotC y))))
      clear y0 y1 HKA
      generalize (wr.alloc (dotC x)).alloc (dotC y) = V at *
      generalize wr.heap.size = gz at *
      cases is
      ·
       go_wp2
       go_roundw
       case rel => exact ⟨j + 1, by go_num, by omega, by rw [← par_same (renD now) Hx.out (ren_none His.out)]; exact HF⟩
       case measure => simp [intOf]; omega
      have x0 : V.cell? ⟨gz + 1, 0, none⟩ = some (.int .i64 y.f0) := (za4 HY.out 0).trans rfl
      have x1 : V.cell? ⟨gz + 1, 1, none⟩ = some (.int .i64 y.f1) := (za4 HY.out 1).trans rfl
      have z0 : V.cell? ⟨gx, 0, none⟩ = some (.slice (some ⟨gm, 0, none⟩) nm c3) := (za4 HF.out.bx 0).trans rfl
      go_wp2_with (first | (refine wpList_putDot rfl _ _ rfl rfl y HF.out.rd hjl rfl rfl ?_; intro V5 hr5 hg5) | fail)
      rw [← ren_some His.out Hy.out, par_set (renD now) Hx.out] at hr5
      have HF := za0.mk (HF.out.putD hr5 hg5)
      clear hr5 hg5 x0 x1 z0
      go_roundw
      case rel => exact ⟨j + 1, by go_num, by omega, HF⟩
      case measure => simp [intOf]; omega
     obtain rfl : j = nm := by omega
     rw [HCI.out.2.1] at HF
     have HF0 : za0 (RenF w ga gx now u8 (.slice A3 j c3) (.slice A4 ng c4) os (c.f0.map (renD now)) (parL (renL now) 0 c.f1) wr) := ⟨by rw [HCI.out.1]; exact HF.out⟩
     have z1 : wr.cell? ⟨gx, 1, none⟩ = some (.slice A4 ng c4) := (za4 HF0.out.bx 1).trans rfl
     clear HF
     go_wp2
     clear z1
     generalize wr = U2 at *
     go_loopw [67] (fun i wr => ∃ k : Nat, i = .int .i64 k ∧ k ≤ ng ∧ za0 (RenF w ga gx now u8 (.slice A3 j c3) (.slice A4 ng c4) os (c.f0.map (renD now)) (parL (renL now) k c.f1) wr)) (fun i _ => ng - (intOf i).toNat)
     case atStart => exact ⟨0, rfl, Nat.zero_le _, HF0⟩
     case round =>
      clear HF0
      obtain ⟨k, rfl, hk, HF⟩ := hrel
      by_cases hkl : k < ng
      ·
       obtain ⟨x, Hx⟩ : ∃ x, za0 (c.f1[k]? = some x) := ⟨_, ⟨List.getElem?_eq_getElem (by rw [Hng.out]; exact hkl)⟩⟩
       obtain ⟨gm, rfl⟩ := own_form HF.out.rl (by rw [par_len, Hng.out]; omega)
       obtain ⟨a9, e, y0, y1, y2⟩ := lost_at (Kd.R_reads' HF.out.rl).2.2 (Below.refl _ wr) k x (par_get _ Hx.out)
       cases e
       rw [show (⟨gm, 0, none⟩ : Addr).add (k * 3) = ⟨gm, k * 3, none⟩ by rw [add_lit, Nat.zero_add]] at y0 y1 y2
       obtain ⟨y, Hy⟩ : ∃ o, za0 ((MapLaw.mget now x.f0).getD ⟨0, 0⟩ = o) := ⟨_, ⟨rfl⟩⟩
       obtain ⟨is, His⟩ : ∃ b, za0 ((MapLaw.mget now x.f0).isSome = b) := ⟨_, ⟨rfl⟩⟩
       have HKA := za0.mk (HF.out.mp.below (za2 (Below.refl _ wr) (lostC x)))
       have hkn : k < ng ∧ ng ≤ 1000000 := ⟨hkl, HCL.out.2⟩
       go_upto_region 24 with (first | (at_lookup; refine MapLaw.wpList_lookup rfl _ _ _ true rfl dotKey Tryz.underlying120 (z := .agg #[.int .i64 0, .int .i64 0]) Tryz.zeroValue39 x.f0 rfl rfl HKA.out (lk_dot _ _ Hy.out) His.out ?_) | fail)
       have HY := za0.mk (zaj (wr.alloc (lostC x)) (dotC y))
       rw [World.size_alloc] at HY
       have HF := za0.mk (HF.out.more (za8 (za2 (Below.refl _ wr) (lostC x)) (za2 (Below.refl _ (wr.alloc (lostC x))) (dotC y))))
       clear y0 y1 y2 HKA
       generalize (wr.alloc (lostC x)).alloc (dotC y) = V at *
       generalize wr.heap.size = gz at *
       cases is
       ·
        go_wp2
        go_roundw
        case rel => exact ⟨k + 1, by go_num, by omega, by rw [← par_same (renL now) Hx.out (by unfold renL; rw [ren_none His.out])]; exact HF⟩
        case measure => simp [intOf]; omega
       have x0 : V.cell? ⟨gz + 1, 0, none⟩ = some (.int .i64 y.f0) := (za4 HY.out 0).trans rfl
       have x1 : V.cell? ⟨gz + 1, 1, none⟩ = some (.int .i64 y.f1) := (za4 HY.out 1).trans rfl
       have z1 : V.cell? ⟨gx, 1, none⟩ = some (.slice (some ⟨gm, 0, none⟩) ng c4) := (za4 HF.out.bx 1).trans rfl
       go_wp2_with (first | (refine wpList_putLost rfl _ _ rfl rfl y HF.out.rl hkl (par_get _ Hx.out) rfl rfl ?_; intro V5 hr5 hg5) | fail)
       rw [← ren_some His.out Hy.out, show (⟨renD now x.f0, x.f1⟩ : LostE) = renL now x from rfl, par_set (renL now) Hx.out] at hr5
       have HF := za0.mk (HF.out.putL hr5 hg5)
       clear hr5 hg5 x0 x1 z1
       go_roundw
       case rel => exact ⟨k + 1, by go_num, by omega, HF⟩
       case measure => simp [intOf]; omega
      obtain rfl : k = ng := by omega
      rw [HCI.out.2.2] at HF
      have z0 : wr.cell? ⟨gx, 0, none⟩ = some (.slice A3 j c3) := (za4 HF.out.bx 0).trans rfl
      have z1 : wr.cell? ⟨gx, 1, none⟩ = some (.slice A4 k c4) := (za4 HF.out.bx 1).trans rfl
      have hkn : q < n ∧ n ≤ 1000 := ⟨hlt, HL.out.1⟩
      have HBW : za0 (w.heap.size ≤ wr.heap.size) := ⟨HF.out.below.size⟩
      go_wp2_with (first | (at_builtin; refine app_chg1 w.heap.size rfl _ _ rfl u8 _ _ os (renP now c) rfl rfl (Kd.Q_mono HF.out.rn fun _ _ => trivial) HF.out.rd HF.out.rl HBW.out HOL.out ?_; intro v6 V6 hr6 hg6 ho6) | fail)
      have HR : za0 (RC V6 w.heap.size v6 ((us.take (q + 1)).map (renP now))) := ⟨by rw [HTK.out]; exact hr6⟩
      have HM := za0.mk (HF.out.mp.same (hg6.block _ HF.out.mp.lt fun e => by
       obtain ⟨_, inner, ho, _⟩ := HF.out.rn
       obtain ⟨_, cells, hc⟩ := q_typed ho _ e.symm
       exact map_no HF.out.mp hc rfl))
      have HB := za0.mk (HF.out.below.grown hg6 HBW.out fun k' e => by
       obtain ⟨_, inner, ho, _⟩ := HF.out.rn
       exact (q_typed ho _ e).1)
      clear hr6 hg6 ho6 z0 z1
      go_roundw
      case rel => exact ⟨q + 1, by go_num, by omega, HR, HM, HB⟩
      case measure => simp [intOf]; omega
   obtain rfl : q = n := by omega
   rw [List.take_of_length_le (Nat.le_of_eq Hn.out)] at HR
   go_wp2
   go_ret
   exact ⟨_, rfl, by unfold renC; rw [Hnow.out]; exact HR.out, HB.out⟩
end
section
def lastC (us : List ChgP) : ChgP := us.getLast?.getD ⟨[], []⟩
/-- What undo.back answers, and the two lists behind it. -/
def backS (s : List Node) (d : Dot) (us ts : List ChgP) : (List Node × Int) × (List ChgP × List ChgP) :=
 if (backR s d (lastC us).f0 (lastC us).f1).2.2.2 = 2 then (([], 2), (us, ts))
 else if us = [] then (([], 9), (us, ts))
 else if (backR s d (lastC us).f0 (lastC us).f1).2.2.2 ≠ 0 then (([], (backR s d (lastC us).f0 (lastC us).f1).2.2.2), (us, ts))
 else (((backR s d (lastC us).f0 (lastC us).f1).1, 0), (renC (backR s d (lastC us).f0 (lastC us).f1).1 us.dropLast, putC (renC (backR s d (lastC us).f0 (lastC us).f1).1 ts) ⟨(backR s d (lastC us).f0 (lastC us).f1).2.1, (backR s d (lastC us).f0 (lastC us).f1).2.2.1⟩))
theorem reads_take {α : Type} {R : α → List Value → Prop} {size k n : Nat} {w : World} {A : Option Addr} {ps : List α} (h : ReadsRow R size w A n ps) (hk : k ≤ n) : ReadsRow R size w A k (ps.take k) := by
 obtain ⟨h1, h2, h3⟩ := h
 refine ⟨by rw [List.length_take]; omega, by omega, fun hp => ?_⟩
 obtain ⟨ad, e, hc⟩ := h3 (by omega)
 refine ⟨ad, e, fun j p hj => hc j p ?_⟩
 rw [List.getElem?_take] at hj
 split at hj
 ·
  exact hj
 ·
  cases hj
theorem backR_len {s : List Node} {d : Dot} {m : List Dot} {g : List LostE} : (backR s d m g).1.length ≤ m.length + g.length := by
 unfold backR backE
 split
 ·
  split
  ·
   simp
  ·
   split
   ·
    simp
   ·
    show (sortD _).length ≤ _; rw [(sortD_perm _).length_eq]; exact backG_len s d m g
 ·
  simp
abbrev stkC (cs : Array Value) : Obj := .cells cs 37 (0, 0)
/-- Small enough to be walked. -/
structure Fits (l : List Node) (us ts : List ChgP) : Prop where
 l : l.length ≤ 100000
 u : us.length ≤ 1000
 t : ts.length ≤ 1000
 c : ∀ c ∈ us ++ ts, c.f0.length + c.f1.length ≤ 20000
/-- What has come up in the last region of undo.back. -/
structure BkF (w : World) (gs a b : Nat) (cs : Array Value) (vd vm vg : Value) (g13 : Nat) (us ts : List ChgP) (dl : List Node) (m : List Dot) (g : List LostE) (v1 v2 v3 : Value) (c4 c7 c15 c12 c17 c18 c19 c21 c23 : Bool) (V : World) : Prop where
 ord : c21 = true → c4 = true ∧ c7 = true ∧ c15 = true ∧ c19 = true
 o23 : c23 = true → c21 = true
 o17 : c17 = true → c12 = true
 o19 : c19 = true → c17 = true ∧ c18 = true
 st : V.heap[gs]? = some (stkC (if c23 = true then (cs.setIfInBounds a v1).setIfInBounds b v3 else if c21 = true then cs.setIfInBounds a v1 else cs))
 b13 : c19 = false → V.heap[g13]? = some (chgC vm vg)
 rm : c19 = false → RD V w.heap.size vm m
 rl : c19 = false → RL V w.heap.size vg g
 rn : RN V w.heap.size vd dl
 r1 : c12 = true → Kd.Q KC 28 V w.heap.size (fun k => c17 = true → some k ≠ v2.ownBlock) v1 (renC dl us.dropLast)
 r2 : c17 = true → c19 = false → RC V w.heap.size v2 (renC dl ts)
 r3 : c19 = true → RC V w.heap.size v3 (putC (renC dl ts) ⟨m, g⟩)
 below : w.grownBy V (some gs)
theorem grown_tch {w V V2 : World} {row : Option Nat} {E : Nat → Prop} (h : w.grownBy V row) (ht : Tch E V V2) (hE : ∀ i, E i → w.heap.size ≤ i ∨ some i = row) : w.grownBy V2 row :=
 ⟨ht.os.trans h.os, ht.tape.trans h.tape, ht.output.trans h.output, Nat.le_trans h.size ht.size, fun i hi hr => (ht.block i (Nat.lt_of_lt_of_le hi h.size) (fun e => by rcases hE i e with h1 | h1; omega; exact hr h1)).trans (h.block i hi hr)⟩
/-- One cell has been written. -/
theorem grown_cellR {V : World} {g : Nat} (j : Nat) (u : Value) : V.grownBy (V.setCell ⟨g, j, none⟩ u) (some g) :=
 ⟨rfl, rfl, rfl, by rw [World.size_setCell]; exact Nat.le_refl _, fun k hk hne => Below.heap_setCell V _ u k (fun e => hne (by rw [e]))⟩
theorem Q_typed {W : World} {base : Nat} {u : Value} {us : List ChgP} (h : RC W base u us) {q : Nat} (e : u.ownBlock = some q) : ∃ cells, W.heap[q]? = some (.cells cells 28 (0, 0)) := by
 obtain ⟨_, inner, ho, _⟩ := h
 exact (q_typed ho q e).2
theorem RC.at {w V : World} {gs base : Nat} {cs : Array Value} {v : Value} {us : List ChgP} (h : RC w base v us) (hS : w.heap[gs]? = some (stkC cs)) (hg : w.grownBy V (some gs)) : RC V base v us :=
 Kd.Q_mono (Kd.Q_grown (Kd.Q_types h hS (by decide)) hg (fun k hk e => hk.2 (Option.some.inj e))) (fun _ _ => trivial)
def backsInv (w : World) (gs a b : Nat) (cs : Array Value) (Af At Ad A5 A6 : Option Addr) (k cf nt ct nd cd nm c5 ng c6 g13 : Nat) (us ts : List ChgP) (q1 : List Node) (q2 : List Dot) (q3 : List LostE) (z2 z3 z4 z5 z6 z7 z8 z9 z10 z11 z14 z15 z16 z17 z18 z19 z20 z21 z22 z23 z24 z25 z26 z27 z28 z29 z30 z31 z32 z33 z34 z35 z36 z37 z38 z39 z40 z41 z42 z43 z44 z45 z46 z47 z48 z49 z50 z51 z52 z53 z54 z55 z56 z57 z58 z59 z60 z61 z62 z63 z64 z65 z66 z67 z68 z69 z70 z71 z72 : Value) (L : Array Bool) (ac : Act) (V : World) : Prop := ∃ (l0 l1 l2 l3 l4 l5 l6 l7 l8 l9 l10 l11 l12 l13 l14 l15 l16 l17 l18 l19 l20 l21 l22 l23 : Bool) (v1 : Value) (v2 : Value) (v3 : Value), L = #[l0, l1, l2, l3, l4, l5, l6, l7, l8, l9, l10, l11, l12, l13, l14, l15, l16, l17, l18, l19, l20, l21, l22, l23] ∧ ac = { tmps := #[.pointer (some ⟨gs, a, none⟩), .pointer (some ⟨gs, b, none⟩), z2, z3, z4, z5, z6, z7, z8, z9, z10, z11, .slice Ad nd cd, .pointer (some ⟨g13, 0, none⟩), z14, z15, z16, z17, z18, z19, z20, z21, z22, z23, z24, z25, z26, z27, z28, z29, z30, z31, z32, z33, z34, z35, z36, z37, z38, z39, z40, z41, z42, z43, z44, z45, z46, z47, z48, z49, selv l0 (.pointer (some ⟨gs, a, none⟩)) (z50), selv l1 (.pointer (some ⟨gs, b, none⟩)) (z51), selv l2 (.pointer (some ⟨gs, a, none⟩)) (z52), selv l3 (.pointer (some ⟨gs, a, none⟩)) (z53), selv l4 (.slice Af (k + 1) cf) (z54), selv l5 (.pointer (some ⟨gs, a, none⟩)) (z55), selv l6 (.pointer (some ⟨gs, a, none⟩)) (z56), selv l7 (.slice Af (k + 1) cf) (z57), selv l8 (.int .i64 ((k + 1 : Nat) : Int)) (z58), selv l9 (.int .i64 (k : Int)) (z59), selv l10 (.slice Af k cf) (z60), selv l11 (.slice Ad nd cd) (z61), selv l12 (v1) (z62), selv l13 (.pointer (some ⟨gs, b, none⟩)) (z63), selv l14 (.pointer (some ⟨gs, b, none⟩)) (z64), selv l15 (.slice At nt ct) (z65), selv l16 (.slice Ad nd cd) (z66), selv l17 (v2) (z67), selv l18 (.agg #[.slice A5 nm c5, .slice A6 ng c6]) (z68), selv l19 (v3) (z69), selv l20 (.pointer (some ⟨gs, a, none⟩)) (z70), selv l22 (.pointer (some ⟨gs, b, none⟩)) (z71), z72], defers := [] } ∧ za0 (BkF w gs a b cs (.slice Ad nd cd) (.slice A5 nm c5) (.slice A6 ng c6) g13 us ts q1 q2 q3 v1 v2 v3 l4 l7 l15 l12 l17 l18 l19 l21 l23 V)
set_option maxHeartbeats 4000000 in
set_option maxRecDepth 100000 in
theorem back_call (gs a b : Nat) (cs : Array Value) (vf vt : Value) (us ts : List ChgP) (base : Nat) (A0 : Option Addr) (c0 : Nat) (l0 : List Node) (d : Dot) (w : World) (hab : a ≠ b) (hS : w.heap[gs]? = some (stkC cs)) (ha : cs[a]? = some vf) (hb : cs[b]? = some vt) (hf : RC w base vf us) (ht : RC w base vt ts)
  (hbs : base ≤ gs) (hr0 : Kd.C k42 w A0 l0.length l0) (hc0 : l0.length ≤ c0) (hfit : Fits l0 us ts) :
  Calls Tryz.prog 37 #[.pointer (some ⟨gs, a, none⟩), .pointer (some ⟨gs, b, none⟩), .slice A0 l0.length c0, .agg #[.int .i64 d.f0, .int .i64 d.f1]] w fun e w' => ∃ v vf' vt' : Value, e = .returned (.tuple #[v, .int .i64 (backS l0 d us ts).1.2]) ∧ RN w' w.heap.size v (backS l0 d us ts).1.1 ∧ w'.heap[gs]? = some (stkC ((cs.setIfInBounds a vf').setIfInBounds b vt')) ∧ RC w' base vf' (backS l0 d us ts).2.1 ∧ RC w' base vt' (backS l0 d us ts).2.2 ∧ w.grownBy w' (some gs) ∧ ((backS l0 d us ts).1.2 ≠ 0 → vf' = vf ∧ vt' = vt) := by
 have HS := za0.mk hS
 have HF := za0.mk hf
 have HT := za0.mk ht
 have HR0 := za0.mk hr0
 have HFIT := za0.mk hfit
 have HAB := za0.mk (And.intro ha hb)
 have HC0 := za0.mk hc0
 have HBS := za0.mk hbs
 have hu := Tryz.underlying42
 have hu2 := Tryz.underlying39
 have hu3 := Tryz.underlying28
 have hu4 := Tryz.underlying37
 obtain ⟨n0, Hn0⟩ : ∃ n, za0 (l0.length = n) := ⟨_, ⟨rfl⟩⟩
 rw [Hn0.out]
 obtain ⟨Af, cf, rfl, _⟩ := Kd.Q_slice hf
 obtain ⟨At, ct, rfl, _⟩ := Kd.Q_slice ht
 obtain ⟨nf, Hnf⟩ : ∃ n, za0 (us.length = n) := ⟨_, ⟨rfl⟩⟩
 obtain ⟨nt, Hnt⟩ : ∃ n, za0 (ts.length = n) := ⟨_, ⟨rfl⟩⟩
 rw [Hnf.out] at HF HAB
 rw [Hnt.out] at HT HAB
 obtain ⟨lc, Hlc⟩ : ∃ c, za0 (lastC us = c) := ⟨_, ⟨rfl⟩⟩
 have HLS : za0 (lc.f0.length + lc.f1.length ≤ 20000) := ⟨by
  rw [← Hlc.out]
  unfold lastC
  cases h : us.getLast? with
  | none => simp
  | some x => exact hfit.c x (List.mem_append_left _ (List.mem_of_getLast? h))⟩
 obtain ⟨q1, q2, q3, q4, HQ⟩ : ∃ q1 q2 q3 q4, za0 (backR l0 d lc.f0 lc.f1 = (q1, q2, q3, q4)) := ⟨_, _, _, _, ⟨rfl⟩⟩
 have HQL : za0 (q1.length ≤ 20000) := ⟨by have h := @backR_len l0 d lc.f0 lc.f1; rw [HQ.out] at h; have := HLS.out; exact Nat.le_trans h this⟩
 have HRES : za0 (backS l0 d us ts = if q4 = 2 then (([], 2), (us, ts)) else if us = [] then (([], 9), (us, ts)) else if q4 ≠ 0 then (([], q4), (us, ts)) else ((q1, 0), (renC q1 us.dropLast, putC (renC q1 ts) ⟨q2, q3⟩))) := ⟨by unfold backS; rw [Hlc.out, HQ.out]⟩
 have HBK := za0.mk (fun (Am : Option Addr) (cm : Nat) (Ag : Option Addr) (cg : Nat) (W : World) (hW : Below w.heap.size w W) (hm : Kd.C k39 W Am lc.f0.length lc.f0) (hcm : lc.f0.length ≤ cm) (hg : Kd.C k68 W Ag lc.f1.length lc.f1) (hcg : lc.f1.length ≤ cg) =>
  undo_Back.calls A0 c0 l0 d.f0 d.f1 Am cm lc.f0 Ag cg lc.f1 q1 q2 q3 q4 W (Kd.C_below hr0 hW) hc0 hm hcm hg hcg (by unfold undo_Back.f; rw [if_pos (by have := hfit.l; have := HLS.out; omega)]; exact congrArg some HQ.out))
 rw [Hn0.out] at HBK
 have HSAME : za0 (∀ W : World, W.heap[gs]? = some (stkC cs) → W.heap[gs]? = some (stkC ((cs.setIfInBounds a (.slice Af nf cf)).setIfInBounds b (.slice At nt ct)))) := ⟨fun W h => by
  have h1 := HAB.out.1
  have h2 := HAB.out.2
  obtain ⟨ha2, ha3⟩ := Array.getElem?_eq_some_iff.1 h1
  obtain ⟨hb2, hb3⟩ := Array.getElem?_eq_some_iff.1 h2
  have e1 : cs.setIfInBounds a (.slice Af nf cf) = cs := by
   rw [Array.setIfInBounds, dif_pos ha2, ← ha3]; simp
  rw [h, e1]
  have e2 : cs.setIfInBounds b (.slice At nt ct) = cs := by
   rw [Array.setIfInBounds, dif_pos hb2, ← hb3]; simp
  rw [e2]⟩
 have HW0 : za0 (((w.alloc (dotC d)).alloc (chgC (.slice none 0 0) (.slice none 0 0))).heap[w.heap.size]? = some (dotC d) ∧ ((w.alloc (dotC d)).alloc (chgC (.slice none 0 0) (.slice none 0 0))).heap[w.heap.size + 1]? = some (chgC (.slice none 0 0) (.slice none 0 0)) ∧ Below w.heap.size w ((w.alloc (dotC d)).alloc (chgC (.slice none 0 0) (.slice none 0 0)))) := ⟨by
  have h0 := zaj w (dotC d)
  have h1 := zaj (w.alloc (dotC d)) (chgC (.slice none 0 0) (.slice none 0 0))
  rw [World.size_alloc] at h1
  exact ⟨za6 h0 _, h1, za2 (za2 (Below.refl _ w) _) _⟩⟩
 clear hS ha hb hf ht hbs hr0 hc0 hfit
 go_enter Tryz.func37, Tryz.ntmps37
 go_upto_region 2 with (fail)
 generalize (w.alloc (dotC d)).alloc (chgC (.slice none 0 0) (.slice none 0 0)) = V at *
 have hcz : V.cell? ⟨gs, a, none⟩ = some (.slice Af nf cf) := (za4 (zab HS.out HW0.out.2.2) a).trans HAB.out.1
 go_upto_if 20 with (fail)
 go_cut [10] from 21 (fun s10 wc => s10 = .pointer (some ⟨w.heap.size + 1, 0, none⟩) ∧ Below w.heap.size w wc ∧ wc.heap[w.heap.size]? = some (dotC d) ∧ ∃ Am cm Ag cg, za0 (wc.heap[w.heap.size + 1]? = some (chgC (.slice Am lc.f0.length cm) (.slice Ag lc.f1.length cg))) ∧ za0 (Kd.C k39 wc Am lc.f0.length lc.f0) ∧ za0 (lc.f0.length ≤ cm) ∧ za0 (Kd.C k68 wc Ag lc.f1.length lc.f1) ∧ za0 (lc.f1.length ≤ cg))
 case first =>
  clear HBK HRES HSAME HT HR0
  cases nf with
  | zero =>
   have hE : lc = ⟨[], []⟩ := by
    have h : us = [] := List.length_eq_zero_iff.1 Hnf.out
    rw [← Hlc.out, h]; rfl
   subst hE
   have HZ := za0.mk HW0.out.2.1
   clear hcz
   go_wp2
   go_meet
   case rel => exact ⟨rfl, HW0.out.2.2, HW0.out.1, none, 0, none, 0, HZ, ⟨⟨rfl, by decide, fun h => absurd h (Nat.lt_irrefl 0)⟩⟩, ⟨Nat.le_refl _⟩, ⟨⟨rfl, by decide, fun h => absurd h (Nat.lt_irrefl 0)⟩⟩, ⟨Nat.le_refl _⟩⟩
  | succ k =>
   have HX : za0 (us[k]? = some lc) := ⟨by
    rw [← Hlc.out]; unfold lastC
    have h := Hnf.out
    rw [List.getLast?_eq_getElem?, h]
    simp only [Nat.add_sub_cancel]
    rw [List.getElem?_eq_getElem (by omega)]; rfl⟩
   obtain ⟨ad, Am, cm, Ag, cg, e, y0, y1, hcm, hcg, hlm, hlg⟩ := chg_at (Kd.Q_reads' HF.out).2.2 HW0.out.2.2 k lc HX.out
   subst e
   have hkn : k < 1000 := by have := HFIT.out.u; have := Hnf.out; omega
   have HCS := za0.mk (And.intro (And.intro hcm hlm) (And.intro hcg hlg))
   clear hcm hcg hlm hlg
   go_wp2_with (first | (refine zat rfl _ _ rfl rfl HW0.out.2.1 (.slice Am lc.f0.length cm) (.slice Ag lc.f1.length cg) rfl rfl rfl rfl ?_; intro V3 hz1 hg1) | fail)
   have hkeep : ∀ {q : Nat} {o : Obj}, V.heap[q]? = some o → q ≠ w.heap.size + 1 → V3.heap[q]? = some o := fun hq hn => (hg1.block _ (zae hq) fun e => hn (Option.some.inj e)).trans hq
   have hB3 := grown_on hg1 HW0.out.2.2 (fun q e => by have := Option.some.inj e; omega)
   go_meet
   case rel => exact ⟨rfl, hB3, hkeep HW0.out.1 (by omega), Am, cm, Ag, cg, ⟨hz1⟩, ⟨Kd.C_below HCS.out.1.1 hB3⟩, ⟨HCS.out.1.2⟩, ⟨Kd.C_below HCS.out.2.1 hB3⟩, ⟨HCS.out.2.2⟩⟩
 case rest =>
  obtain ⟨rfl, hB, h7, Am, cm, Ag, cg, H10, HCM, HLM, HCG, HLG⟩ := hcut
  have HB := za0.mk hB
  have H7 := za0.mk h7
  have HST := za0.mk (zab HS.out hB)
  have HCALL := za0.mk (HBK.out Am cm Ag cg wc hB HCM.out HLM.out HCG.out HLG.out)
  clear hB h7 HBK HCM HLM HCG HLG HW0 hcz
  have z0 : wc.cell? ⟨w.heap.size, 0, none⟩ = some (.int .i64 d.f0) := (za4 H7.out 0).trans rfl
  have z1 : wc.cell? ⟨w.heap.size, 1, none⟩ = some (.int .i64 d.f1) := (za4 H7.out 1).trans rfl
  have z2 : wc.cell? ⟨w.heap.size + 1, 0, none⟩ = some (.slice Am lc.f0.length cm) := (za4 H10.out 0).trans rfl
  have z3 : wc.cell? ⟨w.heap.size + 1, 1, none⟩ = some (.slice Ag lc.f1.length cg) := (za4 H10.out 1).trans rfl
  go_wp2_with fail
  clear z0 z1 z2 z3 H10
  refine HCALL.out.mono ?_
  rintro e V1 ⟨vd, vm, vg, rfl, hrn, hrm, hrl, hb⟩
  obtain ⟨Ad, cd, rfl⟩ := RN.slice hrn
  obtain ⟨A5, c5, rfl⟩ := RD.slice hrm
  obtain ⟨A6, c6, rfl⟩ := Kd.R_slice hrl
  have hsz := HB.out.size
  have HRN := za0.mk (Kd.R_lower hrn hsz)
  have HRM := za0.mk (Kd.R_lower hrm hsz)
  have HRL := za0.mk (Kd.R_lower hrl hsz)
  have HST := za0.mk (zab HST.out hb)
  have HB := za0.mk (za8 HB.out hb)
  obtain ⟨nd, Hnd⟩ : ∃ n, za0 (q1.length = n) := ⟨_, ⟨rfl⟩⟩
  obtain ⟨nm, Hnm⟩ : ∃ n, za0 (q2.length = n) := ⟨_, ⟨rfl⟩⟩
  obtain ⟨ng, Hng⟩ : ∃ n, za0 (q3.length = n) := ⟨_, ⟨rfl⟩⟩
  rw [Hnd.out] at HRN ⊢
  rw [Hnm.out] at HRM ⊢
  rw [Hng.out] at HRL ⊢
  clear hrn hrm hrl hb hsz HCALL H7
  go_upto_region 6 with (fail)
  have hba := za2 (Below.refl _ V1) (chgC (.slice A5 nm c5) (.slice A6 ng c6))
  have H13 := za0.mk (zaj V1 (chgC (.slice A5 nm c5) (.slice A6 ng c6)))
  have HRN := za0.mk (RN.below' HRN.out hba)
  have HRM := za0.mk (RD.below' HRM.out hba)
  have HRL := za0.mk (Kd.R_below HRL.out hba)
  have HST := za0.mk (zab HST.out hba)
  have HGE := za0.mk HB.out.size
  have HB := za0.mk (za8 HB.out hba)
  clear hba
  generalize V1.alloc (chgC (.slice A5 nm c5) (.slice A6 ng c6)) = V2 at *
  generalize V1.heap.size = g13 at *
  by_cases h2 : q4 = 2
  ·
   have hq : (q4 == 2) = true := beq_iff_eq.2 h2
   have HRES : za0 (backS l0 d us ts = (([], 2), (us, ts))) := ⟨by rw [HRES.out, if_pos h2]⟩
   subst h2
   go_wp2
   refine bodyPost_ret (Go.results_tmp2 rfl _ _ _) rfl ?_
   rw [HRES.out]
   exact ⟨_, rfl, Kd.R_nil _ _ _ _ _, _, _, HSAME.out _ HST.out, Kd.Q_below HF.out HB.out, Kd.Q_below HT.out HB.out, grown_of_below HB.out _, fun _ => ⟨by rw [Hnf.out], by rw [Hnt.out]⟩⟩
  have hq : (q4 == 2) = false := beq_eq_false_iff_ne.2 h2
  have HRES : za0 (backS l0 d us ts = if us = [] then (([], 9), (us, ts)) else if q4 ≠ 0 then (([], q4), (us, ts)) else ((q1, 0), (renC q1 us.dropLast, putC (renC q1 ts) ⟨q2, q3⟩))) := ⟨by rw [HRES.out, if_neg h2]⟩
  clear h2
  have hcz : V2.cell? ⟨gs, a, none⟩ = some (.slice Af nf cf) := (za4 HST.out a).trans HAB.out.1
  cases nf with
  | zero =>
   have HRES : za0 (backS l0 d us ts = (([], 9), (us, ts))) := ⟨by rw [HRES.out, if_pos (List.length_eq_zero_iff.1 Hnf.out)]⟩
   go_wp2
   refine bodyPost_ret (Go.results_tmp2 rfl _ _ _) rfl ?_
   rw [HRES.out]
   exact ⟨_, _, _, rfl, Kd.R_nil _ _ _ _ _, HSAME.out _ HST.out, Kd.Q_below HF.out HB.out, Kd.Q_below HT.out HB.out, grown_of_below HB.out _, fun _ => ⟨by rw [Hnf.out], by rw [Hnt.out]⟩⟩
  | succ k =>
   have HRES : za0 (backS l0 d us ts = if q4 ≠ 0 then (([], q4), (us, ts)) else ((q1, 0), (renC q1 us.dropLast, putC (renC q1 ts) ⟨q2, q3⟩))) := ⟨by rw [HRES.out, if_neg (fun h => by have := Hnf.out; rw [h] at this; cases this)]⟩
   have hkz : (((k + 1 : Nat) : Int) == 0) = false := beq_eq_false_iff_ne.2 (by omega)
   by_cases h4 : q4 = 0
   rotate_left
   ·
    have hq4 : (q4 != 0) = true := bne_iff_ne.2 h4
    have HRES : za0 (backS l0 d us ts = (([], q4), (us, ts))) := ⟨by rw [HRES.out, if_pos h4]⟩
    clear h4
    go_wp2
    refine bodyPost_ret (Go.results_tmp2 rfl _ _ _) rfl ?_
    rw [HRES.out]
    exact ⟨_, _, _, rfl, Kd.R_nil _ _ _ _ _, HSAME.out _ HST.out, Kd.Q_below HF.out HB.out, Kd.Q_below HT.out HB.out, grown_of_below HB.out _, fun _ => ⟨by rw [Hnf.out], by rw [Hnt.out]⟩⟩
   subst h4
   have HRES : za0 (backS l0 d us ts = ((q1, 0), (renC q1 us.dropLast, putC (renC q1 ts) ⟨q2, q3⟩))) := ⟨by rw [HRES.out, if_neg (fun h => h rfl)]⟩
   clear HSAME
   have HRU := za0.mk (RN.C HRN.out)
   have HDL : za0 (us.dropLast = us.take k) := ⟨by rw [List.dropLast_eq_take, Hnf.out]; rfl⟩
   have HUL : za0 ((us.take k).length = k) := ⟨by rw [List.length_take, Hnf.out]; omega⟩
   have HREN : za0 (∀ W : World, w.grownBy W (some gs) → RN W w.heap.size (.slice Ad nd cd) q1 → Calls Tryz.prog 53 #[.slice Af k cf, .slice Ad nd cd] W fun e w' => ∃ v, e = .returned v ∧ RC w' W.heap.size v (renC q1 us.dropLast) ∧ Below W.heap.size W w') := ⟨fun W hW hn => by
    have hc := (Kd.Q_reads' (HF.out.at HS.out hW)).2.2
    have h := renamed_call Af cf (us.take k) Ad cd q1 W (by rw [HUL.out]; exact reads_take hc (by rw [Hnf.out]; omega)) (by rw [Hnd.out]; exact (RN.C hn).2.2) ⟨by have := HFIT.out.u; have := Hnf.out; have := HUL.out; omega, by have := HQL.out; omega, fun c hc => by have := HFIT.out.c c (List.mem_append_left _ (List.mem_of_mem_take hc)); omega⟩
    rwa [HUL.out, Hnd.out, ← HDL.out] at h⟩
   have HREN2 : za0 (∀ W : World, w.grownBy W (some gs) → RN W w.heap.size (.slice Ad nd cd) q1 → Calls Tryz.prog 53 #[.slice At nt ct, .slice Ad nd cd] W fun e w' => ∃ v, e = .returned v ∧ RC w' W.heap.size v (renC q1 ts) ∧ Below W.heap.size W w') := ⟨fun W hW hn => by
    have hc := (Kd.Q_reads' (HT.out.at HS.out hW)).2.2
    have h := renamed_call At ct ts Ad cd q1 W hc (by rw [Hnd.out]; exact (RN.C hn).2.2) ⟨by have := HFIT.out.t; omega, by have := HQL.out; omega, fun c hc => by have := HFIT.out.c c (List.mem_append_right _ hc); omega⟩
    rwa [Hnt.out, Hnd.out] at h⟩
   have HTL : za0 ((renC q1 ts).length ≤ 100000) := ⟨by unfold renC; rw [List.length_map]; have := HFIT.out.t; omega⟩
   have HCF : za0 (∀ W : World, (Instr.sliceAt 35 (.slice Af (k + 1) cf) none (some (.int .i64 (k : Int))) none).run Tryz.prog W = .ok (.slice Af k cf) W) := ⟨fun W => by
    obtain ⟨i, hi, _⟩ := info_get infoC
    obtain ⟨h1, h2, _⟩ := Kd.Q_reads' HF.out
    exact run_sliced Tryz.underlying35 (cut_to _ _ .i64 Tryz.underlying35 hi Af (k + 1) cf (k : Int) (by omega) (by omega) h2 W)⟩
   have HGS : za0 (gs < w.heap.size) := ⟨zae HS.out⟩
   have HKN : za0 (k < 1000) := ⟨by have := HFIT.out.u; have := Hnf.out; omega⟩
   have HF0 : za0 (BkF w gs a b cs (.slice Ad nd cd) (.slice A5 nm c5) (.slice A6 ng c6) g13 us ts q1 q2 q3 undef undef undef false false false false false false false false false V2.drew) := ⟨by
    have hd := za3 (Below.refl V2.heap.size V2)
    exact ⟨fun h => (by cases h), fun h => (by cases h), fun h => (by cases h), fun h => (by cases h), zab HST.out hd, fun _ => zab H13.out hd, fun _ => RD.below' HRM.out hd, fun _ => Kd.R_below HRL.out hd, RN.below' HRN.out hd, fun h => (by cases h), fun h => (by cases h), fun h => (by cases h), grown_of_below (za8 HB.out hd) _⟩⟩
   clear HST H13 HRM HRL HRN HB HQ HQL
   go_upto_region 12 with (fail)
   clear hcz
   refine AnyOrder.wp_region (by kernel_rfl) (backsInv w gs a b cs Af At Ad A5 A6 k cf nt ct nd cd nm c5 ng c6 g13 us ts q1 q2 q3 _ _ _ _ _ _ _ _ _ _ _ _ _ _ _ _ _ _ _ _ _ _ _ _ _ _ _ _ _ _ _ _ _ _ _ _ _ _ _ _ _ _ _ _ _ _ _ _ _ _ _ _ _ _ _ _ _ _ _ _ _ _ _ _ _ _ _ _ _) ⟨false, false, false, false, false, false, false, false, false, false, false, false, false, false, false, false, false, false, false, false, false, false, false, false, undef, undef, undef, rfl, rfl, HF0⟩ ?step ?last
   case step =>
    rintro L ac V i ⟨l0, l1, l2, l3, l4, l5, l6, l7, l8, l9, l10, l11, l12, l13, l14, l15, l16, l17, l18, l19, l20, l21, l22, l23, v1, v2, v3, rfl, rfl, HF⟩ hi K hK
    have h1 : i = 0 ∨ i = 1 ∨ i = 2 ∨ i = 3 ∨ i = 4 ∨ i = 5 ∨ i = 6 ∨ i = 7 ∨ i = 8 ∨ i = 9 ∨ i = 10 ∨ i = 11 ∨ i = 12 ∨ i = 13 ∨ i = 14 ∨ i = 15 ∨ i = 16 ∨ i = 17 ∨ i = 18 ∨ i = 19 ∨ i = 20 ∨ i = 21 ∨ i = 22 ∨ i = 23 := by
     have h1 := (AnyOrder.mem_ready hi).1
     clear hi hK
     change i < 24 at h1
     omega
    rcases h1 with rfl | rfl | rfl | rfl | rfl | rfl | rfl | rfl | rfl | rfl | rfl | rfl | rfl | rfl | rfl | rfl | rfl | rfl | rfl | rfl | rfl | rfl | rfl | rfl
    ·
     obtain rfl : l0 = false := (AnyOrder.mem_ready hi).2.1
     clear hi
     refine AnyOrder.wpOp_go rfl (by rfl) ?_
     go_wp2_with fail
     exact ⟨true, l1, l2, l3, l4, l5, l6, l7, l8, l9, l10, l11, l12, l13, l14, l15, l16, l17, l18, l19, l20, l21, l22, l23, v1, v2, v3, rfl, rfl, HF⟩
    ·
     obtain rfl : l1 = false := (AnyOrder.mem_ready hi).2.1
     clear hi
     refine AnyOrder.wpOp_go rfl (by rfl) ?_
     go_wp2_with fail
     exact ⟨l0, true, l2, l3, l4, l5, l6, l7, l8, l9, l10, l11, l12, l13, l14, l15, l16, l17, l18, l19, l20, l21, l22, l23, v1, v2, v3, rfl, rfl, HF⟩
    ·
     obtain rfl : l2 = false := (AnyOrder.mem_ready hi).2.1
     clear hi
     refine AnyOrder.wpOp_go rfl (by rfl) ?_
     go_wp2_with fail
     exact ⟨l0, l1, true, l3, l4, l5, l6, l7, l8, l9, l10, l11, l12, l13, l14, l15, l16, l17, l18, l19, l20, l21, l22, l23, v1, v2, v3, rfl, rfl, HF⟩
    ·
     obtain rfl : l3 = false := (AnyOrder.mem_ready hi).2.1
     obtain rfl : l2 = true := AnyOrder.dep (q := 0) hi rfl rfl rfl
     clear hi
     simp only [sel_true, selv_true] at hK ⊢
     refine AnyOrder.wpOp_go rfl (by rfl) ?_
     go_wp2_with fail
     exact ⟨l0, l1, true, true, l4, l5, l6, l7, l8, l9, l10, l11, l12, l13, l14, l15, l16, l17, l18, l19, l20, l21, l22, l23, v1, v2, v3, rfl, rfl, HF⟩
    ·
     obtain rfl : l4 = false := (AnyOrder.mem_ready hi).2.1
     obtain rfl : l3 = true := AnyOrder.dep (q := 0) hi rfl rfl rfl
     clear hi
     simp only [sel_true, selv_true] at hK ⊢
     obtain rfl : l21 = false := by cases l21 with | false => rfl | true => cases (HF.out.ord rfl).1
     obtain rfl : l23 = false := by cases l23 with | false => rfl | true => cases HF.out.o23 rfl
     (try simp only [sel_false, selv_false] at hK ⊢)
     have hst : V.heap[gs]? = some (stkC cs) := HF.out.st
     have g0 : V.cell? ⟨gs, a, none⟩ = some (.slice Af (k + 1) cf) := (za4 hst a).trans HAB.out.1
     clear hst
     refine AnyOrder.wpOp_go rfl (by rfl) ?_
     go_wp2_with fail
     exact ⟨l0, l1, l2, true, true, l5, l6, l7, l8, l9, l10, l11, l12, l13, l14, l15, l16, l17, l18, l19, l20, false, l22, false, v1, v2, v3, rfl, rfl, ⟨{ HF.out with ord := fun h => (by cases h) }⟩⟩
    ·
     obtain rfl : l5 = false := (AnyOrder.mem_ready hi).2.1
     clear hi
     refine AnyOrder.wpOp_go rfl (by rfl) ?_
     go_wp2_with fail
     exact ⟨l0, l1, l2, l3, l4, true, l6, l7, l8, l9, l10, l11, l12, l13, l14, l15, l16, l17, l18, l19, l20, l21, l22, l23, v1, v2, v3, rfl, rfl, HF⟩
    ·
     obtain rfl : l6 = false := (AnyOrder.mem_ready hi).2.1
     obtain rfl : l5 = true := AnyOrder.dep (q := 0) hi rfl rfl rfl
     clear hi
     simp only [sel_true, selv_true] at hK ⊢
     refine AnyOrder.wpOp_go rfl (by rfl) ?_
     go_wp2_with fail
     exact ⟨l0, l1, l2, l3, l4, true, true, l7, l8, l9, l10, l11, l12, l13, l14, l15, l16, l17, l18, l19, l20, l21, l22, l23, v1, v2, v3, rfl, rfl, HF⟩
    ·
     obtain rfl : l7 = false := (AnyOrder.mem_ready hi).2.1
     obtain rfl : l6 = true := AnyOrder.dep (q := 0) hi rfl rfl rfl
     clear hi
     simp only [sel_true, selv_true] at hK ⊢
     obtain rfl : l21 = false := by cases l21 with | false => rfl | true => cases (HF.out.ord rfl).2.1
     obtain rfl : l23 = false := by cases l23 with | false => rfl | true => cases HF.out.o23 rfl
     (try simp only [sel_false, selv_false] at hK ⊢)
     have hst : V.heap[gs]? = some (stkC cs) := HF.out.st
     have g0 : V.cell? ⟨gs, a, none⟩ = some (.slice Af (k + 1) cf) := (za4 hst a).trans HAB.out.1
     clear hst
     refine AnyOrder.wpOp_go rfl (by rfl) ?_
     go_wp2_with fail
     exact ⟨l0, l1, l2, l3, l4, l5, true, true, l8, l9, l10, l11, l12, l13, l14, l15, l16, l17, l18, l19, l20, false, l22, false, v1, v2, v3, rfl, rfl, ⟨{ HF.out with ord := fun h => (by cases h) }⟩⟩
    ·
     obtain rfl : l8 = false := (AnyOrder.mem_ready hi).2.1
     obtain rfl : l7 = true := AnyOrder.dep (q := 0) hi rfl rfl rfl
     clear hi
     simp only [sel_true, selv_true] at hK ⊢
     refine AnyOrder.wpOp_go rfl (by rfl) ?_
     go_wp2_with fail
     exact ⟨l0, l1, l2, l3, l4, l5, l6, true, true, l9, l10, l11, l12, l13, l14, l15, l16, l17, l18, l19, l20, l21, l22, l23, v1, v2, v3, rfl, rfl, HF⟩
    ·
     obtain rfl : l9 = false := (AnyOrder.mem_ready hi).2.1
     obtain rfl : l8 = true := AnyOrder.dep (q := 0) hi rfl rfl rfl
     clear hi
     simp only [sel_true, selv_true] at hK ⊢
     have hkn := HKN.out
     have hw : wrap64 (((k + 1 : Nat) : Int) - 1) = (k : Int) := by unfold wrap64; omega
     refine AnyOrder.wpOp_go rfl (by rfl) ?_
     go_wp2_with fail
     exact ⟨l0, l1, l2, l3, l4, l5, l6, l7, true, true, l10, l11, l12, l13, l14, l15, l16, l17, l18, l19, l20, l21, l22, l23, v1, v2, v3, rfl, rfl, HF⟩
    ·
     obtain rfl : l10 = false := (AnyOrder.mem_ready hi).2.1
     obtain rfl : l4 = true := AnyOrder.dep (q := 0) hi rfl rfl rfl
     obtain rfl : l9 = true := AnyOrder.dep (q := 1) hi rfl rfl rfl
     clear hi
     simp only [sel_true, selv_true] at hK ⊢
     refine AnyOrder.wpOp_go rfl (by rfl) ?_
     refine op_slice 35 (.tmp 54) none (some (.tmp 59)) rfl rfl rfl rfl (HCF.out V) ?_
     exact hK _ _ ⟨l0, l1, l2, l3, true, l5, l6, l7, l8, true, true, l11, l12, l13, l14, l15, l16, l17, l18, l19, l20, l21, l22, l23, v1, v2, v3, rfl, rfl, HF⟩
    ·
     obtain rfl : l11 = false := (AnyOrder.mem_ready hi).2.1
     clear hi
     refine AnyOrder.wpOp_go rfl (by rfl) ?_
     go_wp2_with fail
     exact ⟨l0, l1, l2, l3, l4, l5, l6, l7, l8, l9, l10, true, l12, l13, l14, l15, l16, l17, l18, l19, l20, l21, l22, l23, v1, v2, v3, rfl, rfl, HF⟩
    ·
     obtain rfl : l12 = false := (AnyOrder.mem_ready hi).2.1
     obtain rfl : l10 = true := AnyOrder.dep (q := 0) hi rfl rfl rfl
     obtain rfl : l11 = true := AnyOrder.dep (q := 1) hi rfl rfl rfl
     clear hi
     simp only [sel_true, selv_true] at hK ⊢
     obtain rfl : l17 = false := by cases l17 with | false => rfl | true => cases HF.out.o17 rfl
     obtain rfl : l19 = false := by cases l19 with | false => rfl | true => cases (HF.out.o19 rfl).1
     obtain rfl : l21 = false := by cases l21 with | false => rfl | true => cases (HF.out.ord rfl).2.2.2
     obtain rfl : l23 = false := by cases l23 with | false => rfl | true => cases HF.out.o23 rfl
     (try simp only [sel_false, selv_false] at hK ⊢)
     refine AnyOrder.wpOp_go rfl (by rfl) ?_
     go_wp2_with fail
     refine (HREN.out V HF.out.below HF.out.rn).mono ?_
     rintro e V' ⟨v, rfl, hr, hb⟩
     exact hK _ _ ⟨l0, l1, l2, l3, l4, l5, l6, l7, l8, l9, true, true, true, l13, l14, l15, l16, false, l18, false, l20, false, l22, false, v, v2, v3, rfl, rfl, ⟨⟨fun h => (by cases h), fun h => (by cases h), fun h => (by cases h), fun h => (by cases h), zab HF.out.st hb, fun _ => zab (HF.out.b13 rfl) hb, fun _ => RD.below' (HF.out.rm rfl) hb, fun _ => Kd.R_below (HF.out.rl rfl) hb, RN.below' HF.out.rn hb, fun _ => Kd.Q_mono (Kd.Q_lower hr HF.out.below.size) (fun k' _ h => (by cases h)), fun h => (by cases h), fun h => (by cases h), grown_more HF.out.below hb⟩⟩⟩
    ·
     obtain rfl : l13 = false := (AnyOrder.mem_ready hi).2.1
     clear hi
     refine AnyOrder.wpOp_go rfl (by rfl) ?_
     go_wp2_with fail
     exact ⟨l0, l1, l2, l3, l4, l5, l6, l7, l8, l9, l10, l11, l12, true, l14, l15, l16, l17, l18, l19, l20, l21, l22, l23, v1, v2, v3, rfl, rfl, HF⟩
    ·
     obtain rfl : l14 = false := (AnyOrder.mem_ready hi).2.1
     obtain rfl : l13 = true := AnyOrder.dep (q := 0) hi rfl rfl rfl
     clear hi
     simp only [sel_true, selv_true] at hK ⊢
     refine AnyOrder.wpOp_go rfl (by rfl) ?_
     go_wp2_with fail
     exact ⟨l0, l1, l2, l3, l4, l5, l6, l7, l8, l9, l10, l11, l12, true, true, l15, l16, l17, l18, l19, l20, l21, l22, l23, v1, v2, v3, rfl, rfl, HF⟩
    ·
     obtain rfl : l15 = false := (AnyOrder.mem_ready hi).2.1
     obtain rfl : l14 = true := AnyOrder.dep (q := 0) hi rfl rfl rfl
     clear hi
     simp only [sel_true, selv_true] at hK ⊢
     obtain rfl : l21 = false := by cases l21 with | false => rfl | true => cases (HF.out.ord rfl).2.2.1
     obtain rfl : l23 = false := by cases l23 with | false => rfl | true => cases HF.out.o23 rfl
     (try simp only [sel_false, selv_false] at hK ⊢)
     have hst : V.heap[gs]? = some (stkC cs) := HF.out.st
     have g0 : V.cell? ⟨gs, b, none⟩ = some (.slice At nt ct) := (za4 hst b).trans HAB.out.2
     clear hst
     refine AnyOrder.wpOp_go rfl (by rfl) ?_
     go_wp2_with fail
     exact ⟨l0, l1, l2, l3, l4, l5, l6, l7, l8, l9, l10, l11, l12, l13, true, true, l16, l17, l18, l19, l20, false, l22, false, v1, v2, v3, rfl, rfl, ⟨{ HF.out with ord := fun h => (by cases h) }⟩⟩
    ·
     obtain rfl : l16 = false := (AnyOrder.mem_ready hi).2.1
     clear hi
     refine AnyOrder.wpOp_go rfl (by rfl) ?_
     go_wp2_with fail
     exact ⟨l0, l1, l2, l3, l4, l5, l6, l7, l8, l9, l10, l11, l12, l13, l14, l15, true, l17, l18, l19, l20, l21, l22, l23, v1, v2, v3, rfl, rfl, HF⟩
    ·
     obtain rfl : l17 = false := (AnyOrder.mem_ready hi).2.1
     obtain rfl : l15 = true := AnyOrder.dep (q := 0) hi rfl rfl rfl
     obtain rfl : l16 = true := AnyOrder.dep (q := 1) hi rfl rfl rfl
     obtain rfl : l12 = true := AnyOrder.dep (q := 2) hi rfl rfl rfl
     clear hi
     simp only [sel_true, selv_true] at hK ⊢
     obtain rfl : l19 = false := by cases l19 with | false => rfl | true => cases (HF.out.o19 rfl).1
     obtain rfl : l21 = false := by cases l21 with | false => rfl | true => cases (HF.out.ord rfl).2.2.2
     obtain rfl : l23 = false := by cases l23 with | false => rfl | true => cases HF.out.o23 rfl
     (try simp only [sel_false, selv_false] at hK ⊢)
     refine AnyOrder.wpOp_go rfl (by rfl) ?_
     go_wp2_with fail
     refine (HREN2.out V HF.out.below HF.out.rn).mono ?_
     rintro e V' ⟨v, rfl, hr, hb⟩
     exact hK _ _ ⟨l0, l1, l2, l3, l4, l5, l6, l7, l8, l9, l10, l11, true, l13, l14, true, true, true, l18, false, l20, false, l22, false, v1, v, v3, rfl, rfl, ⟨⟨fun h => (by cases h), fun h => (by cases h), fun _ => rfl, fun h => (by cases h), zab HF.out.st hb, fun _ => zab (HF.out.b13 rfl) hb, fun _ => RD.below' (HF.out.rm rfl) hb, fun _ => Kd.R_below (HF.out.rl rfl) hb, RN.below' HF.out.rn hb, fun _ => Kd.Q_mono (Kd.Q_below (Kd.Q_bound (HF.out.r1 rfl)) hb) (fun k' hk' _ e => (by have := Kd.Q_base hr k' e.symm; have := hk'.2.2.1; omega)), fun _ _ => Kd.Q_lower hr HF.out.below.size, fun h => (by cases h), grown_more HF.out.below hb⟩⟩⟩
    ·
     obtain rfl : l18 = false := (AnyOrder.mem_ready hi).2.1
     clear hi
     obtain rfl : l19 = false := by cases l19 with | false => rfl | true => cases (HF.out.o19 rfl).2
     obtain rfl : l21 = false := by cases l21 with | false => rfl | true => cases (HF.out.ord rfl).2.2.2
     obtain rfl : l23 = false := by cases l23 with | false => rfl | true => cases HF.out.o23 rfl
     (try simp only [sel_false, selv_false] at hK ⊢)
     have g0 := (za4 (HF.out.b13 rfl) 0).trans rfl
     have g1 := (za4 (HF.out.b13 rfl) 1).trans rfl
     refine AnyOrder.wpOp_go rfl (by rfl) ?_
     go_wp2_with fail
     exact ⟨l0, l1, l2, l3, l4, l5, l6, l7, l8, l9, l10, l11, l12, l13, l14, l15, l16, l17, true, false, l20, false, l22, false, v1, v2, v3, rfl, rfl, ⟨{ HF.out with o19 := fun h => (by cases h) }⟩⟩
    ·
     obtain rfl : l19 = false := (AnyOrder.mem_ready hi).2.1
     obtain rfl : l17 = true := AnyOrder.dep (q := 0) hi rfl rfl rfl
     obtain rfl : l18 = true := AnyOrder.dep (q := 1) hi rfl rfl rfl
     clear hi
     simp only [sel_true, selv_true] at hK ⊢
     obtain rfl : l12 = true := HF.out.o17 rfl
     obtain rfl : l21 = false := by cases l21 with | false => rfl | true => cases (HF.out.ord rfl).2.2.2
     obtain rfl : l23 = false := by cases l23 with | false => rfl | true => cases HF.out.o23 rfl
     (try simp only [sel_false, selv_false] at hK ⊢)
     refine AnyOrder.wpOp_go rfl (by rfl) ?_
     go_wp2_with fail
     refine (put_call w.heap.size v2 (.slice A5 nm c5) (.slice A6 ng c6) (renC q1 ts) ⟨q2, q3⟩ V (HF.out.r2 rfl rfl) (HF.out.rm rfl) (HF.out.rl rfl) HF.out.below.size HTL.out).mono ?_
     rintro e V' ⟨v, rfl, hr, ht, ho⟩
     have hob := fun {q : Nat} (e : v2.ownBlock = some q) => Kd.Q_base (HF.out.r2 rfl rfl) q e
     have hoc := fun {q : Nat} (e : v2.ownBlock = some q) => Q_typed (HF.out.r2 rfl rfl) e
     exact hK _ _ ⟨l0, l1, l2, l3, l4, l5, l6, l7, l8, l9, l10, l11, true, l13, l14, l15, l16, true, true, true, l20, false, l22, false, v1, v2, v, rfl, rfl, ⟨⟨fun h => (by cases h), fun h => (by cases h), fun _ => rfl, fun _ => ⟨rfl, rfl⟩, (ht.block gs (zae HF.out.st) (fun e => (by have := hob e; have := HGS.out; omega))).trans HF.out.st, fun h => (by cases h), fun h => (by cases h), fun h => (by cases h), RN.keep HF.out.rn (fun q hq => ht.block q (RN.lt HF.out.rn hq) (fun e => (by obtain ⟨_, cur, hc⟩ := RN.block HF.out.rn hq; obtain ⟨cells, hc2⟩ := hoc e; rw [hc] at hc2; exact absurd (Obj.cells.inj (Option.some.inj hc2)).2.1 (by decide)))), fun _ => Kd.Q_step (HF.out.r1 rfl) (fun q hq hlt => ht.block q hlt (fun e => hq rfl e.symm)), (fun _ h => (by cases h)), fun _ => hr, grown_tch HF.out.below ht (fun q e => .inl (hob e))⟩⟩⟩
    ·
     obtain rfl : l20 = false := (AnyOrder.mem_ready hi).2.1
     obtain rfl : l0 = true := AnyOrder.dep (q := 0) hi rfl rfl rfl
     obtain rfl : l2 = true := AnyOrder.dep (q := 3) hi rfl rfl rfl
     obtain rfl : l3 = true := AnyOrder.dep (q := 4) hi rfl rfl rfl
     obtain rfl : l4 = true := AnyOrder.dep (q := 5) hi rfl rfl rfl
     obtain rfl : l5 = true := AnyOrder.dep (q := 6) hi rfl rfl rfl
     obtain rfl : l6 = true := AnyOrder.dep (q := 7) hi rfl rfl rfl
     obtain rfl : l7 = true := AnyOrder.dep (q := 8) hi rfl rfl rfl
     obtain rfl : l8 = true := AnyOrder.dep (q := 9) hi rfl rfl rfl
     obtain rfl : l9 = true := AnyOrder.dep (q := 10) hi rfl rfl rfl
     obtain rfl : l10 = true := AnyOrder.dep (q := 11) hi rfl rfl rfl
     obtain rfl : l11 = true := AnyOrder.dep (q := 12) hi rfl rfl rfl
     obtain rfl : l12 = true := AnyOrder.dep (q := 13) hi rfl rfl rfl
     obtain rfl : l15 = true := AnyOrder.dep (q := 16) hi rfl rfl rfl
     obtain rfl : l17 = true := AnyOrder.dep (q := 18) hi rfl rfl rfl
     obtain rfl : l19 = true := AnyOrder.dep (q := 20) hi rfl rfl rfl
     clear hi
     simp only [sel_true, selv_true] at hK ⊢
     refine AnyOrder.wpOp_go rfl (by rfl) ?_
     go_wp2_with fail
     exact ⟨true, l1, true, true, true, true, true, true, true, true, true, true, true, l13, l14, true, l16, true, l18, true, true, l21, l22, l23, v1, v2, v3, rfl, rfl, HF⟩
    ·
     obtain rfl : l21 = false := (AnyOrder.mem_ready hi).2.1
     obtain rfl : l20 = true := AnyOrder.dep (q := 0) hi rfl rfl rfl
     obtain rfl : l12 = true := AnyOrder.dep (q := 1) hi rfl rfl rfl
     obtain rfl : l19 = true := AnyOrder.dep (q := 2) hi rfl rfl rfl
     obtain rfl : l0 = true := AnyOrder.dep (q := 3) hi rfl rfl rfl
     obtain rfl : l2 = true := AnyOrder.dep (q := 5) hi rfl rfl rfl
     obtain rfl : l3 = true := AnyOrder.dep (q := 6) hi rfl rfl rfl
     obtain rfl : l4 = true := AnyOrder.dep (q := 7) hi rfl rfl rfl
     obtain rfl : l5 = true := AnyOrder.dep (q := 8) hi rfl rfl rfl
     obtain rfl : l6 = true := AnyOrder.dep (q := 9) hi rfl rfl rfl
     obtain rfl : l7 = true := AnyOrder.dep (q := 10) hi rfl rfl rfl
     obtain rfl : l8 = true := AnyOrder.dep (q := 11) hi rfl rfl rfl
     obtain rfl : l9 = true := AnyOrder.dep (q := 12) hi rfl rfl rfl
     obtain rfl : l10 = true := AnyOrder.dep (q := 13) hi rfl rfl rfl
     obtain rfl : l11 = true := AnyOrder.dep (q := 14) hi rfl rfl rfl
     obtain rfl : l15 = true := AnyOrder.dep (q := 18) hi rfl rfl rfl
     obtain rfl : l17 = true := AnyOrder.dep (q := 20) hi rfl rfl rfl
     clear hi
     simp only [sel_true, selv_true] at hK ⊢
     obtain rfl : l23 = false := by cases l23 with | false => rfl | true => cases HF.out.o23 rfl
     (try simp only [sel_false, selv_false] at hK ⊢)
     obtain ⟨A7, c7, rfl, _⟩ := Kd.Q_slice (HF.out.r1 rfl)
     have hst : V.heap[gs]? = some (stkC cs) := HF.out.st
     have HST := za0.mk hst
     have g0 : V.cell? ⟨gs, a, none⟩ = some (.slice Af (k + 1) cf) := (za4 hst a).trans HAB.out.1
     have f0 := za9 hst a
     clear hst
     refine AnyOrder.wpOp_go rfl (by rfl) ?_
     go_wp2_with fail
     exact ⟨true, l1, true, true, true, true, true, true, true, true, true, true, true, l13, l14, true, l16, true, l18, true, true, true, l22, false, .slice A7 (renC q1 us.dropLast).length c7, v2, v3, rfl, rfl, ⟨⟨fun _ => ⟨rfl, rfl, rfl, rfl⟩, fun h => (by cases h), HF.out.o17, HF.out.o19, blk_set HST.out a _, fun h => (by cases h), fun h => (by cases h), fun h => (by cases h), Kd.R_set HF.out.rn HST.out (by decide) a _, fun _ => Kd.Q_set (HF.out.r1 rfl) HST.out (by decide) a _, (fun _ h => (by cases h)), fun _ => Kd.Q_set (HF.out.r3 rfl) HST.out (by decide) a _, grown_trans HF.out.below (grown_cellR a _)⟩⟩⟩
    ·
     obtain rfl : l22 = false := (AnyOrder.mem_ready hi).2.1
     obtain rfl : l1 = true := AnyOrder.dep (q := 0) hi rfl rfl rfl
     obtain rfl : l0 = true := AnyOrder.dep (q := 1) hi rfl rfl rfl
     obtain rfl : l2 = true := AnyOrder.dep (q := 3) hi rfl rfl rfl
     obtain rfl : l3 = true := AnyOrder.dep (q := 4) hi rfl rfl rfl
     obtain rfl : l4 = true := AnyOrder.dep (q := 5) hi rfl rfl rfl
     obtain rfl : l5 = true := AnyOrder.dep (q := 6) hi rfl rfl rfl
     obtain rfl : l6 = true := AnyOrder.dep (q := 7) hi rfl rfl rfl
     obtain rfl : l7 = true := AnyOrder.dep (q := 8) hi rfl rfl rfl
     obtain rfl : l8 = true := AnyOrder.dep (q := 9) hi rfl rfl rfl
     obtain rfl : l9 = true := AnyOrder.dep (q := 10) hi rfl rfl rfl
     obtain rfl : l10 = true := AnyOrder.dep (q := 11) hi rfl rfl rfl
     obtain rfl : l11 = true := AnyOrder.dep (q := 12) hi rfl rfl rfl
     obtain rfl : l12 = true := AnyOrder.dep (q := 13) hi rfl rfl rfl
     obtain rfl : l13 = true := AnyOrder.dep (q := 14) hi rfl rfl rfl
     obtain rfl : l14 = true := AnyOrder.dep (q := 15) hi rfl rfl rfl
     obtain rfl : l15 = true := AnyOrder.dep (q := 16) hi rfl rfl rfl
     obtain rfl : l16 = true := AnyOrder.dep (q := 17) hi rfl rfl rfl
     obtain rfl : l17 = true := AnyOrder.dep (q := 18) hi rfl rfl rfl
     obtain rfl : l18 = true := AnyOrder.dep (q := 19) hi rfl rfl rfl
     obtain rfl : l19 = true := AnyOrder.dep (q := 20) hi rfl rfl rfl
     obtain rfl : l20 = true := AnyOrder.dep (q := 21) hi rfl rfl rfl
     obtain rfl : l21 = true := AnyOrder.dep (q := 22) hi rfl rfl rfl
     clear hi
     simp only [sel_true, selv_true] at hK ⊢
     refine AnyOrder.wpOp_go rfl (by rfl) ?_
     go_wp2_with fail
     exact ⟨true, true, true, true, true, true, true, true, true, true, true, true, true, true, true, true, true, true, true, true, true, true, true, l23, v1, v2, v3, rfl, rfl, HF⟩
    ·
     obtain rfl : l23 = false := (AnyOrder.mem_ready hi).2.1
     obtain rfl : l22 = true := AnyOrder.dep (q := 0) hi rfl rfl rfl
     obtain rfl : l19 = true := AnyOrder.dep (q := 1) hi rfl rfl rfl
     obtain rfl : l21 = true := AnyOrder.dep (q := 2) hi rfl rfl rfl
     obtain rfl : l0 = true := AnyOrder.dep (q := 3) hi rfl rfl rfl
     obtain rfl : l1 = true := AnyOrder.dep (q := 4) hi rfl rfl rfl
     obtain rfl : l2 = true := AnyOrder.dep (q := 5) hi rfl rfl rfl
     obtain rfl : l3 = true := AnyOrder.dep (q := 6) hi rfl rfl rfl
     obtain rfl : l4 = true := AnyOrder.dep (q := 7) hi rfl rfl rfl
     obtain rfl : l5 = true := AnyOrder.dep (q := 8) hi rfl rfl rfl
     obtain rfl : l6 = true := AnyOrder.dep (q := 9) hi rfl rfl rfl
     obtain rfl : l7 = true := AnyOrder.dep (q := 10) hi rfl rfl rfl
     obtain rfl : l8 = true := AnyOrder.dep (q := 11) hi rfl rfl rfl
     obtain rfl : l9 = true := AnyOrder.dep (q := 12) hi rfl rfl rfl
     obtain rfl : l10 = true := AnyOrder.dep (q := 13) hi rfl rfl rfl
     obtain rfl : l11 = true := AnyOrder.dep (q := 14) hi rfl rfl rfl
     obtain rfl : l12 = true := AnyOrder.dep (q := 15) hi rfl rfl rfl
     obtain rfl : l13 = true := AnyOrder.dep (q := 16) hi rfl rfl rfl
     obtain rfl : l14 = true := AnyOrder.dep (q := 17) hi rfl rfl rfl
     obtain rfl : l15 = true := AnyOrder.dep (q := 18) hi rfl rfl rfl
     obtain rfl : l16 = true := AnyOrder.dep (q := 19) hi rfl rfl rfl
     obtain rfl : l17 = true := AnyOrder.dep (q := 20) hi rfl rfl rfl
     obtain rfl : l18 = true := AnyOrder.dep (q := 21) hi rfl rfl rfl
     obtain rfl : l20 = true := AnyOrder.dep (q := 23) hi rfl rfl rfl
     clear hi
     simp only [sel_true, selv_true] at hK ⊢
     obtain ⟨A8, c8, rfl, _⟩ := Kd.Q_slice (HF.out.r3 rfl)
     have hst : V.heap[gs]? = some (stkC (cs.setIfInBounds a v1)) := HF.out.st
     have HST := za0.mk hst
     have g0 : V.cell? ⟨gs, b, none⟩ = some (.slice At nt ct) := (za4 hst b).trans (by rw [Array.getElem?_setIfInBounds_ne hab]; exact HAB.out.2)
     have f0 := za9 hst b
     clear hst
     refine AnyOrder.wpOp_go rfl (by rfl) ?_
     go_wp2_with fail
     exact ⟨true, true, true, true, true, true, true, true, true, true, true, true, true, true, true, true, true, true, true, true, true, true, true, true, v1, v2, .slice A8 (putC (renC q1 ts) ⟨q2, q3⟩).length c8, rfl, rfl, ⟨⟨fun _ => ⟨rfl, rfl, rfl, rfl⟩, fun _ => rfl, HF.out.o17, HF.out.o19, blk_set HST.out b _, fun h => (by cases h), fun h => (by cases h), fun h => (by cases h), Kd.R_set HF.out.rn HST.out (by decide) b _, fun _ => Kd.Q_set (HF.out.r1 rfl) HST.out (by decide) b _, (fun _ h => (by cases h)), fun _ => Kd.Q_set (HF.out.r3 rfl) HST.out (by decide) b _, grown_trans HF.out.below (grown_cellR b _)⟩⟩⟩
   case last =>
    rintro L ac V ⟨l0, l1, l2, l3, l4, l5, l6, l7, l8, l9, l10, l11, l12, l13, l14, l15, l16, l17, l18, l19, l20, l21, l22, l23, v1, v2, v3, rfl, rfl, HF⟩ hr
    have hall := AnyOrder.all_listed rfl (by kernel_rfl) hr
    clear hr
    obtain rfl : l0 = true := hall 0 (by decide)
    obtain rfl : l1 = true := hall 1 (by decide)
    obtain rfl : l2 = true := hall 2 (by decide)
    obtain rfl : l3 = true := hall 3 (by decide)
    obtain rfl : l4 = true := hall 4 (by decide)
    obtain rfl : l5 = true := hall 5 (by decide)
    obtain rfl : l6 = true := hall 6 (by decide)
    obtain rfl : l7 = true := hall 7 (by decide)
    obtain rfl : l8 = true := hall 8 (by decide)
    obtain rfl : l9 = true := hall 9 (by decide)
    obtain rfl : l10 = true := hall 10 (by decide)
    obtain rfl : l11 = true := hall 11 (by decide)
    obtain rfl : l12 = true := hall 12 (by decide)
    obtain rfl : l13 = true := hall 13 (by decide)
    obtain rfl : l14 = true := hall 14 (by decide)
    obtain rfl : l15 = true := hall 15 (by decide)
    obtain rfl : l16 = true := hall 16 (by decide)
    obtain rfl : l17 = true := hall 17 (by decide)
    obtain rfl : l18 = true := hall 18 (by decide)
    obtain rfl : l19 = true := hall 19 (by decide)
    obtain rfl : l20 = true := hall 20 (by decide)
    obtain rfl : l21 = true := hall 21 (by decide)
    obtain rfl : l22 = true := hall 22 (by decide)
    obtain rfl : l23 = true := hall 23 (by decide)
    clear hall
    simp only [sel_true, selv_true]
    go_wp2
    refine bodyPost_ret (Go.results_tmp2 rfl _ _ _) rfl ?_
    rw [HRES.out]
    have hw : base ≤ w.heap.size := by have := HBS.out; have := HGS.out; omega
    exact ⟨_, _, _, rfl, HF.out.rn, HF.out.st, Kd.Q_mono (Kd.Q_lower (HF.out.r1 rfl) hw) (fun _ _ => trivial), Kd.Q_lower (HF.out.r3 rfl) hw, HF.out.below, fun h => absurd rfl h⟩
end
section
/-- What has come up in the region of Push that stores. -/
structure PuF (w : World) (gs g3 base : Nat) (vu vr vi vj : Value) (us : List ChgP) (m : List Dot) (g : List LostE) (v1 v2 v3 : Value) (c5 c6 c7 c8 c11 c14 : Bool) (V : World) : Prop where
 ord : c11 = true → c5 = true ∧ c8 = true
 o14 : c14 = true → c11 = true
 o8 : c8 = true → c7 = true
 o7 : c7 = true → c6 = true
 st : V.heap[gs]? = some (stkC (if c14 = true then #[v3, .slice none 0 0] else if c11 = true then #[v3, vr] else #[vu, vr]))
 b3 : c6 = false → V.heap[g3]? = some (chgC vi vj)
 rm : c7 = true → c8 = false → RD V w.heap.size v1 m ∧ RL V w.heap.size v2 g
 low : c8 = false → Below w.heap.size w V
 r3 : c8 = true → RC V base v3 (putC us ⟨m, g⟩)
 tch : Tch (fun i => i = gs ∨ vu.ownBlock = some i) w V
theorem tch_set {w V : World} {E : Nat → Prop} {g : Nat} (h : Tch E w V) (hE : E g) (i : Nat) (u : Value) : Tch E w (V.setCell ⟨g, i, none⟩ u) :=
 h.trans (Tch.grown (E := E) (grown_cellR i u) (fun r e => by rw [← Option.some.inj e]; exact hE)) (fun _ _ e => e)
def pushInv (w : World) (gs base : Nat) (vr : Value) (Au Am Ag : Option Addr) (nu cu nm cm ng cg : Nat) (us : List ChgP) (m : List Dot) (g : List LostE) (z1 z2 z4 z5 z6 z7 z8 z9 z10 z11 z12 z13 z14 z15 z16 z17 z18 z19 z20 z21 z22 z23 z24 : Value) (L : Array Bool) (ac : Act) (V : World) : Prop := ∃ (l0 l1 l2 l3 l4 l5 l6 l7 l8 l9 l10 l11 l12 l13 l14 : Bool) (v1 : Value) (v2 : Value) (v3 : Value), L = #[l0, l1, l2, l3, l4, l5, l6, l7, l8, l9, l10, l11, l12, l13, l14] ∧ ac = { tmps := #[.pointer (some ⟨gs, 0, none⟩), z1, z2, .pointer (some ⟨w.heap.size, 0, none⟩), z4, z5, z6, z7, z8, z9, z10, z11, selv l0 (.pointer (some ⟨gs, 0, none⟩)) (z12), selv l1 (.pointer (some ⟨gs, 0, none⟩)) (z13), selv l2 (.pointer (some ⟨gs, 0, none⟩)) (z14), selv l3 (.pointer (some ⟨gs, 0, none⟩)) (z15), selv l4 (.pointer (some ⟨gs, 0, none⟩)) (z16), selv l5 (.slice Au nu cu) (z17), selv l6 (.agg #[.slice Am nm cm, .slice Ag ng cg]) (z18), selv l7 (.agg #[v1, v2]) (z19), selv l8 (v3) (z20), selv l9 (.pointer (some ⟨gs, 0, none⟩)) (z21), selv l10 (.pointer (some ⟨gs, 0, none⟩)) (z22), selv l12 (.pointer (some ⟨gs, 0, none⟩)) (z23), selv l13 (.pointer (some ⟨gs, 1, none⟩)) (z24)], defers := [] } ∧ za0 (PuF w gs w.heap.size base (.slice Au nu cu) vr (.slice Am nm cm) (.slice Ag ng cg) us m g v1 v2 v3 l5 l6 l7 l8 l11 l14 V)
set_option maxHeartbeats 2000000 in
set_option maxRecDepth 100000 in
theorem stackPush_call (gs base : Nat) (vu vr : Value) (us : List ChgP) (Am : Option Addr) (cm : Nat) (m : List Dot) (Ag : Option Addr) (cg : Nat) (g : List LostE) (w : World) (hS : w.heap[gs]? = some (stkC #[vu, vr])) (hU : RC w base vu us) (hbs : base ≤ gs) (hrone : vr.oneCell' = true)
  (hrm : Kd.C k39 w Am m.length m) (hrg : Kd.C k68 w Ag g.length g) (hl : m.length ≤ 1000000 ∧ g.length ≤ 1000000) (hul : us.length ≤ 100000) :
  Calls Tryz.prog 11 #[.pointer (some ⟨gs, 0, none⟩), .agg #[.slice Am m.length cm, .slice Ag g.length cg]] w fun e w' => (validC m g = false ∧ e = .returned (.int .i64 2) ∧ Below w.heap.size w w') ∨ (validC m g = true ∧ e = .returned (.int .i64 0) ∧ ∃ v, w'.heap[gs]? = some (stkC #[v, .slice none 0 0]) ∧ RC w' base v (putC us ⟨m, g⟩) ∧ Tch (fun i => i = gs ∨ vu.ownBlock = some i) w w') := by
 have HVC := za0.mk (fun W (hb : Below w.heap.size w W) => valid_call Am m.length cm m Ag g.length cg g W (Kd.C_below hrm hb) (Kd.C_below hrg hb) hl)
 have HCOP := za0.mk (fun W (hb : Below w.heap.size w W) => copied_call Am cm m Ag cg g W (Kd.C_below hrm hb) (Kd.C_below hrg hb) hl)
 have HS := za0.mk hS
 have HU := za0.mk hU
 have HBW : za0 (base ≤ w.heap.size ∧ gs < w.heap.size) := ⟨by have := zae hS; omega⟩
 have HUL := za0.mk hul
 have hu3 := Tryz.underlying28
 have hu4 := Tryz.underlying37
 obtain ⟨bv, Hbv⟩ : ∃ b, za0 (validC m g = b) := ⟨_, ⟨rfl⟩⟩
 rw [Hbv.out] at HVC ⊢
 obtain ⟨Au, cu, rfl, _⟩ := Kd.Q_slice hU
 obtain ⟨nu, Hnu⟩ : ∃ n, za0 (us.length = n) := ⟨_, ⟨rfl⟩⟩
 rw [Hnu.out] at HU HS ⊢
 obtain ⟨nm, Hnm⟩ : ∃ n, za0 (m.length = n) := ⟨_, ⟨rfl⟩⟩
 obtain ⟨ng, Hng⟩ : ∃ n, za0 (g.length = n) := ⟨_, ⟨rfl⟩⟩
 rw [Hnm.out] at HVC HCOP ⊢
 rw [Hng.out] at HVC HCOP ⊢
 have HX := za0.mk (And.intro (zaj w (chgC (.slice Am nm cm) (.slice Ag ng cg))) (za2 (Below.refl _ w) (chgC (.slice Am nm cm) (.slice Ag ng cg))))
 clear hS hU hbs hrm hrg hl hul
 go_enter Tryz.func11, Tryz.ntmps11
 go_upto_region 3 with (fail)
 generalize w.alloc (chgC (.slice Am nm cm) (.slice Ag ng cg)) = V at *
 have z0 : V.cell? ⟨w.heap.size, 0, none⟩ = some (.slice Am nm cm) := (za4 HX.out.1 0).trans rfl
 have z1 : V.cell? ⟨w.heap.size, 1, none⟩ = some (.slice Ag ng cg) := (za4 HX.out.1 1).trans rfl
 go_wp2_with fail
 clear z0 z1
 refine (HVC.out V HX.out.2).mono ?_
 rintro e V1 ⟨rfl, hb⟩
 have HX := za0.mk (And.intro (zab HX.out.1 hb) (za8 HX.out.2 hb))
 clear hb HVC
 cases bv
 ·
  go_wp2
  go_ret
  exact ⟨rfl, HX.out.2⟩
 have HF0 : za0 (PuF w gs w.heap.size base (.slice Au nu cu) vr (.slice Am nm cm) (.slice Ag ng cg) us m g undef undef undef false false false false false false V1.drew) := ⟨by
  have hd := za3 (Below.refl V1.heap.size V1)
  have hw := za8 HX.out.2 hd
  exact ⟨fun h => (by cases h), fun h => (by cases h), fun h => (by cases h), fun h => (by cases h), zab HS.out hw, fun _ => zab HX.out.1 hd, fun h => (by cases h), fun _ => hw, fun h => (by cases h), Tch.below hw⟩⟩
 go_upto_region 5 with (fail)
 refine AnyOrder.wp_region (by kernel_rfl) (pushInv w gs base vr Au Am Ag nu cu nm cm ng cg us m g _ _ _ _ _ _ _ _ _ _ _ _ _ _ _ _ _ _ _ _ _ _ _) ⟨false, false, false, false, false, false, false, false, false, false, false, false, false, false, false, undef, undef, undef, rfl, rfl, HF0⟩ ?step ?last
 case step =>
  rintro L ac V i ⟨l0, l1, l2, l3, l4, l5, l6, l7, l8, l9, l10, l11, l12, l13, l14, v1, v2, v3, rfl, rfl, HF⟩ hi K hK
  have h1 : i = 0 ∨ i = 1 ∨ i = 2 ∨ i = 3 ∨ i = 4 ∨ i = 5 ∨ i = 6 ∨ i = 7 ∨ i = 8 ∨ i = 9 ∨ i = 10 ∨ i = 11 ∨ i = 12 ∨ i = 13 ∨ i = 14 := by
   have h1 := (AnyOrder.mem_ready hi).1
   clear hi hK
   change i < 15 at h1
   omega
  rcases h1 with rfl | rfl | rfl | rfl | rfl | rfl | rfl | rfl | rfl | rfl | rfl | rfl | rfl | rfl | rfl
  ·
   obtain rfl : l0 = false := (AnyOrder.mem_ready hi).2.1
   clear hi
   refine AnyOrder.wpOp_go rfl (by rfl) ?_
   go_wp2_with fail
   exact ⟨true, l1, l2, l3, l4, l5, l6, l7, l8, l9, l10, l11, l12, l13, l14, v1, v2, v3, rfl, rfl, HF⟩
  ·
   obtain rfl : l1 = false := (AnyOrder.mem_ready hi).2.1
   clear hi
   refine AnyOrder.wpOp_go rfl (by rfl) ?_
   go_wp2_with fail
   exact ⟨l0, true, l2, l3, l4, l5, l6, l7, l8, l9, l10, l11, l12, l13, l14, v1, v2, v3, rfl, rfl, HF⟩
  ·
   obtain rfl : l2 = false := (AnyOrder.mem_ready hi).2.1
   clear hi
   refine AnyOrder.wpOp_go rfl (by rfl) ?_
   go_wp2_with fail
   exact ⟨l0, l1, true, l3, l4, l5, l6, l7, l8, l9, l10, l11, l12, l13, l14, v1, v2, v3, rfl, rfl, HF⟩
  ·
   obtain rfl : l3 = false := (AnyOrder.mem_ready hi).2.1
   obtain rfl : l2 = true := AnyOrder.dep (q := 0) hi rfl rfl rfl
   clear hi
   simp only [sel_true, selv_true] at hK ⊢
   refine AnyOrder.wpOp_go rfl (by rfl) ?_
   go_wp2_with fail
   exact ⟨l0, l1, true, true, l4, l5, l6, l7, l8, l9, l10, l11, l12, l13, l14, v1, v2, v3, rfl, rfl, HF⟩
  ·
   obtain rfl : l4 = false := (AnyOrder.mem_ready hi).2.1
   obtain rfl : l3 = true := AnyOrder.dep (q := 0) hi rfl rfl rfl
   clear hi
   simp only [sel_true, selv_true] at hK ⊢
   refine AnyOrder.wpOp_go rfl (by rfl) ?_
   go_wp2_with fail
   exact ⟨l0, l1, l2, true, true, l5, l6, l7, l8, l9, l10, l11, l12, l13, l14, v1, v2, v3, rfl, rfl, HF⟩
  ·
   obtain rfl : l5 = false := (AnyOrder.mem_ready hi).2.1
   obtain rfl : l4 = true := AnyOrder.dep (q := 0) hi rfl rfl rfl
   clear hi
   simp only [sel_true, selv_true] at hK ⊢
   obtain rfl : l11 = false := by cases l11 with | false => rfl | true => cases (HF.out.ord rfl).1
   obtain rfl : l14 = false := by cases l14 with | false => rfl | true => cases HF.out.o14 rfl
   (try simp only [sel_false, selv_false] at hK ⊢)
   have hst : V.heap[gs]? = some (stkC #[.slice Au nu cu, vr]) := HF.out.st
   have g0 : V.cell? ⟨gs, 0, none⟩ = some (.slice Au nu cu) := (za4 hst 0).trans rfl
   clear hst
   refine AnyOrder.wpOp_go rfl (by rfl) ?_
   go_wp2_with fail
   exact ⟨l0, l1, l2, l3, true, true, l6, l7, l8, l9, l10, false, l12, l13, false, v1, v2, v3, rfl, rfl, ⟨{ HF.out with ord := fun h => (by cases h) }⟩⟩
  ·
   obtain rfl : l6 = false := (AnyOrder.mem_ready hi).2.1
   clear hi
   obtain rfl : l7 = false := by cases l7 with | false => rfl | true => cases HF.out.o7 rfl
   (try simp only [sel_false, selv_false] at hK ⊢)
   have g0 := (za4 (HF.out.b3 rfl) 0).trans rfl
   have g1 := (za4 (HF.out.b3 rfl) 1).trans rfl
   refine AnyOrder.wpOp_go rfl (by rfl) ?_
   go_wp2_with fail
   exact ⟨l0, l1, l2, l3, l4, l5, true, false, l8, l9, l10, l11, l12, l13, l14, v1, v2, v3, rfl, rfl, ⟨{ HF.out with o7 := fun h => (by cases h), b3 := fun h => (by cases h) }⟩⟩
  ·
   obtain rfl : l7 = false := (AnyOrder.mem_ready hi).2.1
   obtain rfl : l6 = true := AnyOrder.dep (q := 0) hi rfl rfl rfl
   clear hi
   simp only [sel_true, selv_true] at hK ⊢
   obtain rfl : l8 = false := by cases l8 with | false => rfl | true => cases HF.out.o8 rfl
   obtain rfl : l11 = false := by cases l11 with | false => rfl | true => cases (HF.out.ord rfl).2
   obtain rfl : l14 = false := by cases l14 with | false => rfl | true => cases HF.out.o14 rfl
   (try simp only [sel_false, selv_false] at hK ⊢)
   refine AnyOrder.wpOp_go rfl (by rfl) ?_
   go_wp2_with fail
   refine (HCOP.out V (HF.out.low rfl)).mono ?_
   rintro e V' ⟨x1, x2, rfl, hr1, hr2, hb⟩
   exact hK _ _ ⟨l0, l1, l2, l3, l4, l5, true, true, false, l9, l10, false, l12, l13, false, x1, x2, v3, rfl, rfl, ⟨⟨fun h => (by cases h), fun h => (by cases h), fun h => (by cases h), fun _ => rfl, zab HF.out.st hb, fun h => (by cases h), fun _ _ => ⟨Kd.R_lower hr1 (HF.out.low rfl).size, Kd.R_lower hr2 (HF.out.low rfl).size⟩, fun _ => za8 (HF.out.low rfl) hb, fun h => (by cases h), Tch.below (za8 (HF.out.low rfl) hb)⟩⟩⟩
  ·
   obtain rfl : l8 = false := (AnyOrder.mem_ready hi).2.1
   obtain rfl : l5 = true := AnyOrder.dep (q := 0) hi rfl rfl rfl
   obtain rfl : l7 = true := AnyOrder.dep (q := 1) hi rfl rfl rfl
   clear hi
   simp only [sel_true, selv_true] at hK ⊢
   obtain rfl : l6 = true := HF.out.o7 rfl
   obtain rfl : l11 = false := by cases l11 with | false => rfl | true => cases (HF.out.ord rfl).2
   obtain rfl : l14 = false := by cases l14 with | false => rfl | true => cases HF.out.o14 rfl
   (try simp only [sel_false, selv_false] at hK ⊢)
   have hlow := HF.out.low rfl
   have hru := Kd.Q_below HU.out hlow
   refine AnyOrder.wpOp_go rfl (by rfl) ?_
   go_wp2_with fail
   refine (put_call base (.slice Au nu cu) v1 v2 us ⟨m, g⟩ V hru (Kd.R_lower (HF.out.rm rfl rfl).1 HBW.out.1) (Kd.R_lower (HF.out.rm rfl rfl).2 HBW.out.1) (Nat.le_trans HBW.out.1 hlow.size) HUL.out).mono ?_
   rintro e V' ⟨x3, rfl, hr, ht, ho⟩
   have hoc := fun {q : Nat} (e : (.slice Au nu cu : Value).ownBlock = some q) => Q_typed hru e
   exact hK _ _ ⟨l0, l1, l2, l3, l4, true, true, true, true, l9, l10, false, l12, l13, false, v1, v2, x3, rfl, rfl, ⟨⟨fun h => (by cases h), fun h => (by cases h), fun _ => rfl, fun _ => rfl, (ht.block gs (zae HF.out.st) (fun e => (by obtain ⟨cells, hc⟩ := hoc e; have h2 := HF.out.st; rw [hc] at h2; exact absurd (Obj.cells.inj (Option.some.inj h2)).2.1 (by decide)))).trans HF.out.st, fun h => (by cases h), (fun _ h => (by cases h)), fun h => (by cases h), fun _ => hr, HF.out.tch.trans ht (fun _ _ e => .inr e)⟩⟩⟩
  ·
   obtain rfl : l9 = false := (AnyOrder.mem_ready hi).2.1
   obtain rfl : l0 = true := AnyOrder.dep (q := 0) hi rfl rfl rfl
   obtain rfl : l2 = true := AnyOrder.dep (q := 3) hi rfl rfl rfl
   obtain rfl : l3 = true := AnyOrder.dep (q := 4) hi rfl rfl rfl
   obtain rfl : l4 = true := AnyOrder.dep (q := 5) hi rfl rfl rfl
   obtain rfl : l5 = true := AnyOrder.dep (q := 6) hi rfl rfl rfl
   obtain rfl : l6 = true := AnyOrder.dep (q := 7) hi rfl rfl rfl
   obtain rfl : l7 = true := AnyOrder.dep (q := 8) hi rfl rfl rfl
   obtain rfl : l8 = true := AnyOrder.dep (q := 9) hi rfl rfl rfl
   clear hi
   simp only [sel_true, selv_true] at hK ⊢
   refine AnyOrder.wpOp_go rfl (by rfl) ?_
   go_wp2_with fail
   exact ⟨true, l1, true, true, true, true, true, true, true, true, l10, l11, l12, l13, l14, v1, v2, v3, rfl, rfl, HF⟩
  ·
   obtain rfl : l10 = false := (AnyOrder.mem_ready hi).2.1
   obtain rfl : l9 = true := AnyOrder.dep (q := 0) hi rfl rfl rfl
   obtain rfl : l0 = true := AnyOrder.dep (q := 1) hi rfl rfl rfl
   obtain rfl : l2 = true := AnyOrder.dep (q := 3) hi rfl rfl rfl
   obtain rfl : l3 = true := AnyOrder.dep (q := 4) hi rfl rfl rfl
   obtain rfl : l4 = true := AnyOrder.dep (q := 5) hi rfl rfl rfl
   obtain rfl : l5 = true := AnyOrder.dep (q := 6) hi rfl rfl rfl
   obtain rfl : l6 = true := AnyOrder.dep (q := 7) hi rfl rfl rfl
   obtain rfl : l7 = true := AnyOrder.dep (q := 8) hi rfl rfl rfl
   obtain rfl : l8 = true := AnyOrder.dep (q := 9) hi rfl rfl rfl
   clear hi
   simp only [sel_true, selv_true] at hK ⊢
   refine AnyOrder.wpOp_go rfl (by rfl) ?_
   go_wp2_with fail
   exact ⟨true, l1, true, true, true, true, true, true, true, true, true, l11, l12, l13, l14, v1, v2, v3, rfl, rfl, HF⟩
  ·
   obtain rfl : l11 = false := (AnyOrder.mem_ready hi).2.1
   obtain rfl : l10 = true := AnyOrder.dep (q := 0) hi rfl rfl rfl
   obtain rfl : l8 = true := AnyOrder.dep (q := 1) hi rfl rfl rfl
   obtain rfl : l0 = true := AnyOrder.dep (q := 3) hi rfl rfl rfl
   obtain rfl : l2 = true := AnyOrder.dep (q := 5) hi rfl rfl rfl
   obtain rfl : l3 = true := AnyOrder.dep (q := 6) hi rfl rfl rfl
   obtain rfl : l4 = true := AnyOrder.dep (q := 7) hi rfl rfl rfl
   obtain rfl : l5 = true := AnyOrder.dep (q := 8) hi rfl rfl rfl
   obtain rfl : l6 = true := AnyOrder.dep (q := 9) hi rfl rfl rfl
   obtain rfl : l7 = true := AnyOrder.dep (q := 10) hi rfl rfl rfl
   clear hi
   simp only [sel_true, selv_true] at hK ⊢
   obtain rfl : l14 = false := by cases l14 with | false => rfl | true => cases HF.out.o14 rfl
   (try simp only [sel_false, selv_false] at hK ⊢)
   obtain ⟨A7, c7, rfl, _⟩ := Kd.Q_slice (HF.out.r3 rfl)
   have hst : V.heap[gs]? = some (stkC #[.slice Au nu cu, vr]) := HF.out.st
   have HST := za0.mk hst
   have g0 : V.cell? ⟨gs, 0, none⟩ = some (.slice Au nu cu) := (za4 hst 0).trans rfl
   have f0 := za9 hst 0
   clear hst
   refine AnyOrder.wpOp_go rfl (by rfl) ?_
   go_wp2_with fail
   exact ⟨true, l1, true, true, true, true, true, true, true, l9, true, true, l12, l13, false, v1, v2, .slice A7 (putC us ⟨m, g⟩).length c7, rfl, rfl, ⟨⟨fun _ => ⟨rfl, rfl⟩, fun h => (by cases h), HF.out.o8, HF.out.o7, blk_set HST.out 0 _, fun h => (by cases h), (fun _ h => (by cases h)), fun h => (by cases h), fun _ => Kd.Q_set (HF.out.r3 rfl) HST.out (by decide) 0 _, tch_set HF.out.tch (.inl rfl) 0 _⟩⟩⟩
  ·
   obtain rfl : l12 = false := (AnyOrder.mem_ready hi).2.1
   obtain rfl : l1 = true := AnyOrder.dep (q := 0) hi rfl rfl rfl
   obtain rfl : l0 = true := AnyOrder.dep (q := 1) hi rfl rfl rfl
   obtain rfl : l2 = true := AnyOrder.dep (q := 3) hi rfl rfl rfl
   obtain rfl : l3 = true := AnyOrder.dep (q := 4) hi rfl rfl rfl
   obtain rfl : l4 = true := AnyOrder.dep (q := 5) hi rfl rfl rfl
   obtain rfl : l5 = true := AnyOrder.dep (q := 6) hi rfl rfl rfl
   obtain rfl : l6 = true := AnyOrder.dep (q := 7) hi rfl rfl rfl
   obtain rfl : l7 = true := AnyOrder.dep (q := 8) hi rfl rfl rfl
   obtain rfl : l8 = true := AnyOrder.dep (q := 9) hi rfl rfl rfl
   obtain rfl : l9 = true := AnyOrder.dep (q := 10) hi rfl rfl rfl
   obtain rfl : l10 = true := AnyOrder.dep (q := 11) hi rfl rfl rfl
   obtain rfl : l11 = true := AnyOrder.dep (q := 12) hi rfl rfl rfl
   clear hi
   simp only [sel_true, selv_true] at hK ⊢
   refine AnyOrder.wpOp_go rfl (by rfl) ?_
   go_wp2_with fail
   exact ⟨true, true, true, true, true, true, true, true, true, true, true, true, true, l13, l14, v1, v2, v3, rfl, rfl, HF⟩
  ·
   obtain rfl : l13 = false := (AnyOrder.mem_ready hi).2.1
   obtain rfl : l12 = true := AnyOrder.dep (q := 0) hi rfl rfl rfl
   obtain rfl : l0 = true := AnyOrder.dep (q := 1) hi rfl rfl rfl
   obtain rfl : l1 = true := AnyOrder.dep (q := 2) hi rfl rfl rfl
   obtain rfl : l2 = true := AnyOrder.dep (q := 3) hi rfl rfl rfl
   obtain rfl : l3 = true := AnyOrder.dep (q := 4) hi rfl rfl rfl
   obtain rfl : l4 = true := AnyOrder.dep (q := 5) hi rfl rfl rfl
   obtain rfl : l5 = true := AnyOrder.dep (q := 6) hi rfl rfl rfl
   obtain rfl : l6 = true := AnyOrder.dep (q := 7) hi rfl rfl rfl
   obtain rfl : l7 = true := AnyOrder.dep (q := 8) hi rfl rfl rfl
   obtain rfl : l8 = true := AnyOrder.dep (q := 9) hi rfl rfl rfl
   obtain rfl : l9 = true := AnyOrder.dep (q := 10) hi rfl rfl rfl
   obtain rfl : l10 = true := AnyOrder.dep (q := 11) hi rfl rfl rfl
   obtain rfl : l11 = true := AnyOrder.dep (q := 12) hi rfl rfl rfl
   clear hi
   simp only [sel_true, selv_true] at hK ⊢
   refine AnyOrder.wpOp_go rfl (by rfl) ?_
   go_wp2_with fail
   exact ⟨true, true, true, true, true, true, true, true, true, true, true, true, true, true, l14, v1, v2, v3, rfl, rfl, HF⟩
  ·
   obtain rfl : l14 = false := (AnyOrder.mem_ready hi).2.1
   obtain rfl : l13 = true := AnyOrder.dep (q := 0) hi rfl rfl rfl
   obtain rfl : l11 = true := AnyOrder.dep (q := 1) hi rfl rfl rfl
   obtain rfl : l0 = true := AnyOrder.dep (q := 2) hi rfl rfl rfl
   obtain rfl : l1 = true := AnyOrder.dep (q := 3) hi rfl rfl rfl
   obtain rfl : l2 = true := AnyOrder.dep (q := 4) hi rfl rfl rfl
   obtain rfl : l3 = true := AnyOrder.dep (q := 5) hi rfl rfl rfl
   obtain rfl : l4 = true := AnyOrder.dep (q := 6) hi rfl rfl rfl
   obtain rfl : l5 = true := AnyOrder.dep (q := 7) hi rfl rfl rfl
   obtain rfl : l6 = true := AnyOrder.dep (q := 8) hi rfl rfl rfl
   obtain rfl : l7 = true := AnyOrder.dep (q := 9) hi rfl rfl rfl
   obtain rfl : l8 = true := AnyOrder.dep (q := 10) hi rfl rfl rfl
   obtain rfl : l9 = true := AnyOrder.dep (q := 11) hi rfl rfl rfl
   obtain rfl : l10 = true := AnyOrder.dep (q := 12) hi rfl rfl rfl
   clear hi
   simp only [sel_true, selv_true] at hK ⊢
   have hst : V.heap[gs]? = some (stkC #[v3, vr]) := HF.out.st
   have HST := za0.mk hst
   have g0 : V.cell? ⟨gs, 1, none⟩ = some vr := (za4 hst 1).trans rfl
   have f0 := za9 hst 1
   clear hst
   refine AnyOrder.wpOp_go rfl (by rfl) ?_
   go_wp2_with fail
   exact ⟨true, true, true, true, true, true, true, true, true, true, true, true, l12, true, true, v1, v2, v3, rfl, rfl, ⟨⟨HF.out.ord, fun _ => rfl, HF.out.o8, HF.out.o7, blk_set HST.out 1 _, fun h => (by cases h), (fun _ h => (by cases h)), fun h => (by cases h), fun _ => Kd.Q_set (HF.out.r3 rfl) HST.out (by decide) 1 _, tch_set HF.out.tch (.inl rfl) 1 _⟩⟩⟩
 case last =>
  rintro L ac V ⟨l0, l1, l2, l3, l4, l5, l6, l7, l8, l9, l10, l11, l12, l13, l14, v1, v2, v3, rfl, rfl, HF⟩ hr
  have hall := AnyOrder.all_listed rfl (by kernel_rfl) hr
  clear hr
  obtain rfl : l0 = true := hall 0 (by decide)
  obtain rfl : l1 = true := hall 1 (by decide)
  obtain rfl : l2 = true := hall 2 (by decide)
  obtain rfl : l3 = true := hall 3 (by decide)
  obtain rfl : l4 = true := hall 4 (by decide)
  obtain rfl : l5 = true := hall 5 (by decide)
  obtain rfl : l6 = true := hall 6 (by decide)
  obtain rfl : l7 = true := hall 7 (by decide)
  obtain rfl : l8 = true := hall 8 (by decide)
  obtain rfl : l9 = true := hall 9 (by decide)
  obtain rfl : l10 = true := hall 10 (by decide)
  obtain rfl : l11 = true := hall 11 (by decide)
  obtain rfl : l12 = true := hall 12 (by decide)
  obtain rfl : l13 = true := hall 13 (by decide)
  obtain rfl : l14 = true := hall 14 (by decide)
  clear hall
  simp only [sel_true, selv_true]
  go_wp2
  go_ret
  exact ⟨rfl, _, HF.out.st, HF.out.r3 rfl, HF.out.tch⟩
end
section
/-- What has come up in the region of Undo and Redo. -/
structure UnF (w : World) (g5 : Nat) (d : Dot) (P : Value → World → Prop) (v : Value) (c7 c8 c9 c11 : Bool) (V : World) : Prop where
 ord : c8 = true → c7 = true
 o9 : c9 = true → c8 = true
 o11 : c11 = true → c8 = true
 low : c8 = false → Below w.heap.size w V ∧ V.heap[g5]? = some (dotC d)
 post : c8 = true → P v V
/-- What Undo and Redo leave behind. -/
def BackPost (w : World) (gs base : Nat) (sw : Bool) (vf vt : Value) (r : (List Node × Int) × (List ChgP × List ChgP)) (v : Value) (V : World) : Prop :=
 RN V w.heap.size v r.1.1 ∧ ∃ v1 v2, V.heap[gs]? = some (stkC (if sw = true then #[v2, v1] else #[v1, v2])) ∧ RC V base v1 r.2.1 ∧ RC V base v2 r.2.2 ∧ w.grownBy V (some gs) ∧ (r.1.2 ≠ 0 → v1 = vf ∧ v2 = vt)
def sundoInv (w : World) (gs n0 c0 : Nat) (A0 : Option Addr) (d : Dot) (e0 : Int) (P : Value → World → Prop) (z2 z3 z4 z8 z9 z10 z11 z12 z13 z14 z15 z16 z17 z18 z19 z20 : Value) (L : Array Bool) (ac : Act) (V : World) : Prop := ∃ (l0 l1 l2 l3 l4 l5 l6 l7 l8 l9 l10 l11 l12 : Bool) (v : Value), L = #[l0, l1, l2, l3, l4, l5, l6, l7, l8, l9, l10, l11, l12] ∧ ac = { tmps := #[.pointer (some ⟨gs, 0, none⟩), .slice A0 n0 c0, z2, z3, z4, .pointer (some ⟨w.heap.size, 0, none⟩), selv l11 (v) (.slice none 0 0), selv l12 (.int .i64 e0) (.int .i64 0), z8, z9, selv l0 (.pointer (some ⟨gs, 0, none⟩)) (z10), selv l1 (.pointer (some ⟨gs, 0, none⟩)) (z11), selv l2 (.pointer (some ⟨gs, 0, none⟩)) (z12), selv l3 (.pointer (some ⟨gs, 0, none⟩)) (z13), selv l4 (.pointer (some ⟨gs, 0, none⟩)) (z14), selv l5 (.pointer (some ⟨gs, 1, none⟩)) (z15), selv l6 (.slice A0 n0 c0) (z16), selv l7 (.agg #[.int .i64 d.f0, .int .i64 d.f1]) (z17), selv l8 (.tuple #[v, .int .i64 e0]) (z18), selv l9 (v) (z19), selv l10 (.int .i64 e0) (z20)], defers := [] } ∧ za0 (UnF w w.heap.size d P v l7 l8 l9 l11 V)
set_option maxHeartbeats 2000000 in
set_option maxRecDepth 100000 in
theorem stackUndo_call (gs base : Nat) (vu vr : Value) (us rs : List ChgP) (A0 : Option Addr) (c0 : Nat) (l0 : List Node) (d : Dot) (w : World) (hS : w.heap[gs]? = some (stkC #[vu, vr])) (hU : RC w base vu us) (hV : RC w base vr rs) (hbs : base ≤ gs)
  (hr0 : Kd.C k42 w A0 l0.length l0) (hc0 : l0.length ≤ c0) (hfit : Fits l0 us rs) :
  Calls Tryz.prog 13 #[.pointer (some ⟨gs, 0, none⟩), .slice A0 l0.length c0, .agg #[.int .i64 d.f0, .int .i64 d.f1]] w fun e w' => ∃ v : Value, e = .returned (.tuple #[v, .int .i64 (backS l0 d us rs).1.2]) ∧ BackPost w gs base false vu vr (backS l0 d us rs) v w' := by
 have HBACK := za0.mk (fun (W : World) (hb : Below w.heap.size w W) => show Calls Tryz.prog 37 #[.pointer (some ⟨gs, 0, none⟩), .pointer (some ⟨gs, 1, none⟩), .slice A0 l0.length c0, .agg #[.int .i64 d.f0, .int .i64 d.f1]] W (fun e w' => ∃ v : Value, e = .returned (.tuple #[v, .int .i64 (backS l0 d us rs).1.2]) ∧ BackPost w gs base false vu vr (backS l0 d us rs) v w') from by
  refine (back_call gs 0 1 #[vu, vr] vu vr us rs base A0 c0 l0 d W (by decide) (zab hS hb) rfl rfl (Kd.Q_below hU hb) (Kd.Q_below hV hb) hbs (Kd.C_below hr0 hb) hc0 hfit).mono ?_
  rintro e w' ⟨v, v1, v2, rfl, h1, h2, h3, h4, h5, h6⟩
  exact ⟨v, rfl, Kd.R_lower h1 hb.size, v1, v2, h2, h3, h4, ⟨h5.os.trans hb.os, h5.tape.trans hb.tape, h5.output.trans hb.output, Nat.le_trans hb.size h5.size, fun i hi hn => (h5.block i (Nat.lt_of_lt_of_le hi hb.size) hn).trans (hb.block i hi)⟩, h6⟩)
 obtain ⟨e0, He0⟩ : ∃ e, za0 ((backS l0 d us rs).1.2 = e) := ⟨_, ⟨rfl⟩⟩
 rw [He0.out] at HBACK ⊢
 obtain ⟨n0, Hn0⟩ : ∃ n, za0 (l0.length = n) := ⟨_, ⟨rfl⟩⟩
 rw [Hn0.out] at HBACK ⊢
 have hu2 := Tryz.underlying39
 have hu4 := Tryz.underlying37
 have HF0 : za0 (UnF w w.heap.size d (BackPost w gs base false vu vr (backS l0 d us rs)) undef false false false false (w.alloc (dotC d)).drew) := ⟨⟨fun h => (by cases h), fun h => (by cases h), fun h => (by cases h), fun _ => ⟨za8 (za2 (Below.refl _ w) _) (za3 (Below.refl (w.alloc (dotC d)).heap.size _)), zab (zaj w (dotC d)) (za3 (Below.refl (w.alloc (dotC d)).heap.size _))⟩, fun h => (by cases h)⟩⟩
 clear hS hU hV hbs hr0 hc0 hfit
 go_enter Tryz.func13, Tryz.ntmps13
 go_upto_region 3 with (fail)
 refine AnyOrder.wp_region (by kernel_rfl) (sundoInv w gs n0 c0 A0 d e0 (BackPost w gs base false vu vr (backS l0 d us rs)) _ _ _ _ _ _ _ _ _ _ _ _ _ _ _ _) ⟨false, false, false, false, false, false, false, false, false, false, false, false, false, undef, rfl, rfl, HF0⟩ ?step ?last
 case step =>
  rintro L ac V i ⟨l0, l1, l2, l3, l4, l5, l6, l7, l8, l9, l10, l11, l12, v, rfl, rfl, HF⟩ hi K hK
  have h1 : i = 0 ∨ i = 1 ∨ i = 2 ∨ i = 3 ∨ i = 4 ∨ i = 5 ∨ i = 6 ∨ i = 7 ∨ i = 8 ∨ i = 9 ∨ i = 10 ∨ i = 11 ∨ i = 12 := by
   have h1 := (AnyOrder.mem_ready hi).1
   clear hi hK
   change i < 13 at h1
   omega
  rcases h1 with rfl | rfl | rfl | rfl | rfl | rfl | rfl | rfl | rfl | rfl | rfl | rfl | rfl
  ·
   obtain rfl : l0 = false := (AnyOrder.mem_ready hi).2.1
   clear hi
   refine AnyOrder.wpOp_go rfl (by rfl) ?_
   go_wp2_with fail
   exact ⟨true, l1, l2, l3, l4, l5, l6, l7, l8, l9, l10, l11, l12, v, rfl, rfl, HF⟩
  ·
   obtain rfl : l1 = false := (AnyOrder.mem_ready hi).2.1
   obtain rfl : l0 = true := AnyOrder.dep (q := 0) hi rfl rfl rfl
   clear hi
   simp only [sel_true, selv_true] at hK ⊢
   refine AnyOrder.wpOp_go rfl (by rfl) ?_
   go_wp2_with fail
   exact ⟨true, true, l2, l3, l4, l5, l6, l7, l8, l9, l10, l11, l12, v, rfl, rfl, HF⟩
  ·
   obtain rfl : l2 = false := (AnyOrder.mem_ready hi).2.1
   obtain rfl : l1 = true := AnyOrder.dep (q := 0) hi rfl rfl rfl
   clear hi
   simp only [sel_true, selv_true] at hK ⊢
   refine AnyOrder.wpOp_go rfl (by rfl) ?_
   go_wp2_with fail
   exact ⟨l0, true, true, l3, l4, l5, l6, l7, l8, l9, l10, l11, l12, v, rfl, rfl, HF⟩
  ·
   obtain rfl : l3 = false := (AnyOrder.mem_ready hi).2.1
   clear hi
   refine AnyOrder.wpOp_go rfl (by rfl) ?_
   go_wp2_with fail
   exact ⟨l0, l1, l2, true, l4, l5, l6, l7, l8, l9, l10, l11, l12, v, rfl, rfl, HF⟩
  ·
   obtain rfl : l4 = false := (AnyOrder.mem_ready hi).2.1
   obtain rfl : l3 = true := AnyOrder.dep (q := 0) hi rfl rfl rfl
   clear hi
   simp only [sel_true, selv_true] at hK ⊢
   refine AnyOrder.wpOp_go rfl (by rfl) ?_
   go_wp2_with fail
   exact ⟨l0, l1, l2, true, true, l5, l6, l7, l8, l9, l10, l11, l12, v, rfl, rfl, HF⟩
  ·
   obtain rfl : l5 = false := (AnyOrder.mem_ready hi).2.1
   obtain rfl : l4 = true := AnyOrder.dep (q := 0) hi rfl rfl rfl
   clear hi
   simp only [sel_true, selv_true] at hK ⊢
   refine AnyOrder.wpOp_go rfl (by rfl) ?_
   go_wp2_with fail
   exact ⟨l0, l1, l2, l3, true, true, l6, l7, l8, l9, l10, l11, l12, v, rfl, rfl, HF⟩
  ·
   obtain rfl : l6 = false := (AnyOrder.mem_ready hi).2.1
   clear hi
   refine AnyOrder.wpOp_go rfl (by rfl) ?_
   go_wp2_with fail
   exact ⟨l0, l1, l2, l3, l4, l5, true, l7, l8, l9, l10, l11, l12, v, rfl, rfl, HF⟩
  ·
   obtain rfl : l7 = false := (AnyOrder.mem_ready hi).2.1
   clear hi
   obtain rfl : l8 = false := by cases l8 with | false => rfl | true => cases HF.out.ord rfl
   (try simp only [sel_false, selv_false] at hK ⊢)
   have g0 := (za4 (HF.out.low rfl).2 0).trans rfl
   have g1 := (za4 (HF.out.low rfl).2 1).trans rfl
   refine AnyOrder.wpOp_go rfl (by rfl) ?_
   go_wp2_with fail
   exact ⟨l0, l1, l2, l3, l4, l5, l6, true, false, l9, l10, l11, l12, v, rfl, rfl, ⟨{ HF.out with ord := fun h => (by cases h) }⟩⟩
  ·
   obtain rfl : l8 = false := (AnyOrder.mem_ready hi).2.1
   obtain rfl : l2 = true := AnyOrder.dep (q := 0) hi rfl rfl rfl
   obtain rfl : l5 = true := AnyOrder.dep (q := 1) hi rfl rfl rfl
   obtain rfl : l6 = true := AnyOrder.dep (q := 2) hi rfl rfl rfl
   obtain rfl : l7 = true := AnyOrder.dep (q := 3) hi rfl rfl rfl
   clear hi
   simp only [sel_true, selv_true] at hK ⊢
   obtain rfl : l9 = false := by cases l9 with | false => rfl | true => cases HF.out.o9 rfl
   obtain rfl : l11 = false := by cases l11 with | false => rfl | true => cases HF.out.o11 rfl
   (try simp only [sel_false, selv_false] at hK ⊢)
   refine AnyOrder.wpOp_go rfl (by rfl) ?_
   go_wp2_with fail
   refine (HBACK.out V (HF.out.low rfl).1).mono ?_
   rintro e V' ⟨v', rfl, hp⟩
   exact hK _ _ ⟨l0, l1, true, l3, l4, true, true, true, true, false, l10, false, l12, v', rfl, rfl, ⟨⟨fun _ => rfl, fun h => (by cases h), fun h => (by cases h), fun h => (by cases h), fun _ => hp⟩⟩⟩
  ·
   obtain rfl : l9 = false := (AnyOrder.mem_ready hi).2.1
   obtain rfl : l8 = true := AnyOrder.dep (q := 0) hi rfl rfl rfl
   clear hi
   simp only [sel_true, selv_true] at hK ⊢
   refine AnyOrder.wpOp_go rfl (by rfl) ?_
   go_wp2_with fail
   exact ⟨l0, l1, l2, l3, l4, l5, l6, l7, true, true, l10, l11, l12, v, rfl, rfl, ⟨{ HF.out with o9 := fun _ => rfl }⟩⟩
  ·
   obtain rfl : l10 = false := (AnyOrder.mem_ready hi).2.1
   obtain rfl : l8 = true := AnyOrder.dep (q := 0) hi rfl rfl rfl
   clear hi
   simp only [sel_true, selv_true] at hK ⊢
   refine AnyOrder.wpOp_go rfl (by rfl) ?_
   go_wp2_with fail
   exact ⟨l0, l1, l2, l3, l4, l5, l6, l7, true, l9, true, l11, l12, v, rfl, rfl, HF⟩
  ·
   obtain rfl : l11 = false := (AnyOrder.mem_ready hi).2.1
   obtain rfl : l9 = true := AnyOrder.dep (q := 0) hi rfl rfl rfl
   obtain rfl : l8 = true := AnyOrder.dep (q := 1) hi rfl rfl rfl
   obtain rfl : l0 = true := AnyOrder.dep (q := 2) hi rfl rfl rfl
   obtain rfl : l1 = true := AnyOrder.dep (q := 3) hi rfl rfl rfl
   obtain rfl : l2 = true := AnyOrder.dep (q := 4) hi rfl rfl rfl
   obtain rfl : l3 = true := AnyOrder.dep (q := 5) hi rfl rfl rfl
   obtain rfl : l4 = true := AnyOrder.dep (q := 6) hi rfl rfl rfl
   obtain rfl : l5 = true := AnyOrder.dep (q := 7) hi rfl rfl rfl
   obtain rfl : l6 = true := AnyOrder.dep (q := 8) hi rfl rfl rfl
   obtain rfl : l7 = true := AnyOrder.dep (q := 9) hi rfl rfl rfl
   obtain rfl : l10 = true := AnyOrder.dep (q := 12) hi rfl rfl rfl
   clear hi
   simp only [sel_true, selv_true] at hK ⊢
   refine AnyOrder.wpOp_go rfl (by rfl) ?_
   go_wp2_with fail
   exact ⟨true, true, true, true, true, true, true, true, true, true, true, true, l12, v, rfl, rfl, ⟨{ HF.out with o11 := fun _ => rfl }⟩⟩
  ·
   obtain rfl : l12 = false := (AnyOrder.mem_ready hi).2.1
   obtain rfl : l10 = true := AnyOrder.dep (q := 0) hi rfl rfl rfl
   obtain rfl : l11 = true := AnyOrder.dep (q := 1) hi rfl rfl rfl
   obtain rfl : l0 = true := AnyOrder.dep (q := 2) hi rfl rfl rfl
   obtain rfl : l1 = true := AnyOrder.dep (q := 3) hi rfl rfl rfl
   obtain rfl : l2 = true := AnyOrder.dep (q := 4) hi rfl rfl rfl
   obtain rfl : l3 = true := AnyOrder.dep (q := 5) hi rfl rfl rfl
   obtain rfl : l4 = true := AnyOrder.dep (q := 6) hi rfl rfl rfl
   obtain rfl : l5 = true := AnyOrder.dep (q := 7) hi rfl rfl rfl
   obtain rfl : l6 = true := AnyOrder.dep (q := 8) hi rfl rfl rfl
   obtain rfl : l7 = true := AnyOrder.dep (q := 9) hi rfl rfl rfl
   obtain rfl : l8 = true := AnyOrder.dep (q := 10) hi rfl rfl rfl
   obtain rfl : l9 = true := AnyOrder.dep (q := 11) hi rfl rfl rfl
   clear hi
   simp only [sel_true, selv_true] at hK ⊢
   refine AnyOrder.wpOp_go rfl (by rfl) ?_
   go_wp2_with fail
   exact ⟨true, true, true, true, true, true, true, true, true, true, true, true, true, v, rfl, rfl, HF⟩
 case last =>
  rintro L ac V ⟨l0, l1, l2, l3, l4, l5, l6, l7, l8, l9, l10, l11, l12, v, rfl, rfl, HF⟩ hr
  have hall := AnyOrder.all_listed rfl (by kernel_rfl) hr
  clear hr
  obtain rfl : l0 = true := hall 0 (by decide)
  obtain rfl : l1 = true := hall 1 (by decide)
  obtain rfl : l2 = true := hall 2 (by decide)
  obtain rfl : l3 = true := hall 3 (by decide)
  obtain rfl : l4 = true := hall 4 (by decide)
  obtain rfl : l5 = true := hall 5 (by decide)
  obtain rfl : l6 = true := hall 6 (by decide)
  obtain rfl : l7 = true := hall 7 (by decide)
  obtain rfl : l8 = true := hall 8 (by decide)
  obtain rfl : l9 = true := hall 9 (by decide)
  obtain rfl : l10 = true := hall 10 (by decide)
  obtain rfl : l11 = true := hall 11 (by decide)
  obtain rfl : l12 = true := hall 12 (by decide)
  clear hall
  simp only [sel_true, selv_true]
  go_wp2
  refine bodyPost_ret (Go.results_tmp2 rfl _ _ _) rfl ?_
  exact ⟨_, rfl, HF.out.post rfl⟩
def sredoInv (w : World) (gs n0 c0 : Nat) (A0 : Option Addr) (d : Dot) (e0 : Int) (P : Value → World → Prop) (z2 z3 z4 z8 z9 z10 z11 z12 z13 z14 z15 z16 z17 z18 z19 z20 : Value) (L : Array Bool) (ac : Act) (V : World) : Prop := ∃ (l0 l1 l2 l3 l4 l5 l6 l7 l8 l9 l10 l11 l12 : Bool) (v : Value), L = #[l0, l1, l2, l3, l4, l5, l6, l7, l8, l9, l10, l11, l12] ∧ ac = { tmps := #[.pointer (some ⟨gs, 0, none⟩), .slice A0 n0 c0, z2, z3, z4, .pointer (some ⟨w.heap.size, 0, none⟩), selv l11 (v) (.slice none 0 0), selv l12 (.int .i64 e0) (.int .i64 0), z8, z9, selv l0 (.pointer (some ⟨gs, 0, none⟩)) (z10), selv l1 (.pointer (some ⟨gs, 0, none⟩)) (z11), selv l2 (.pointer (some ⟨gs, 1, none⟩)) (z12), selv l3 (.pointer (some ⟨gs, 0, none⟩)) (z13), selv l4 (.pointer (some ⟨gs, 0, none⟩)) (z14), selv l5 (.pointer (some ⟨gs, 0, none⟩)) (z15), selv l6 (.slice A0 n0 c0) (z16), selv l7 (.agg #[.int .i64 d.f0, .int .i64 d.f1]) (z17), selv l8 (.tuple #[v, .int .i64 e0]) (z18), selv l9 (v) (z19), selv l10 (.int .i64 e0) (z20)], defers := [] } ∧ za0 (UnF w w.heap.size d P v l7 l8 l9 l11 V)
set_option maxHeartbeats 2000000 in
set_option maxRecDepth 100000 in
theorem stackRedo_call (gs base : Nat) (vu vr : Value) (us rs : List ChgP) (A0 : Option Addr) (c0 : Nat) (l0 : List Node) (d : Dot) (w : World) (hS : w.heap[gs]? = some (stkC #[vu, vr])) (hU : RC w base vu us) (hV : RC w base vr rs) (hbs : base ≤ gs)
  (hr0 : Kd.C k42 w A0 l0.length l0) (hc0 : l0.length ≤ c0) (hfit : Fits l0 rs us) :
  Calls Tryz.prog 31 #[.pointer (some ⟨gs, 0, none⟩), .slice A0 l0.length c0, .agg #[.int .i64 d.f0, .int .i64 d.f1]] w fun e w' => ∃ v : Value, e = .returned (.tuple #[v, .int .i64 (backS l0 d rs us).1.2]) ∧ BackPost w gs base true vr vu (backS l0 d rs us) v w' := by
 have HBACK := za0.mk (fun (W : World) (hb : Below w.heap.size w W) => show Calls Tryz.prog 37 #[.pointer (some ⟨gs, 1, none⟩), .pointer (some ⟨gs, 0, none⟩), .slice A0 l0.length c0, .agg #[.int .i64 d.f0, .int .i64 d.f1]] W (fun e w' => ∃ v : Value, e = .returned (.tuple #[v, .int .i64 (backS l0 d rs us).1.2]) ∧ BackPost w gs base true vr vu (backS l0 d rs us) v w') from by
  refine (back_call gs 1 0 #[vu, vr] vr vu rs us base A0 c0 l0 d W (by decide) (zab hS hb) rfl rfl (Kd.Q_below hV hb) (Kd.Q_below hU hb) hbs (Kd.C_below hr0 hb) hc0 hfit).mono ?_
  rintro e w' ⟨v, v1, v2, rfl, h1, h2, h3, h4, h5, h6⟩
  exact ⟨v, rfl, Kd.R_lower h1 hb.size, v1, v2, h2, h3, h4, ⟨h5.os.trans hb.os, h5.tape.trans hb.tape, h5.output.trans hb.output, Nat.le_trans hb.size h5.size, fun i hi hn => (h5.block i (Nat.lt_of_lt_of_le hi hb.size) hn).trans (hb.block i hi)⟩, h6⟩)
 obtain ⟨e0, He0⟩ : ∃ e, za0 ((backS l0 d rs us).1.2 = e) := ⟨_, ⟨rfl⟩⟩
 rw [He0.out] at HBACK ⊢
 obtain ⟨n0, Hn0⟩ : ∃ n, za0 (l0.length = n) := ⟨_, ⟨rfl⟩⟩
 rw [Hn0.out] at HBACK ⊢
 have hu2 := Tryz.underlying39
 have hu4 := Tryz.underlying37
 have HF0 : za0 (UnF w w.heap.size d (BackPost w gs base true vr vu (backS l0 d rs us)) undef false false false false (w.alloc (dotC d)).drew) := ⟨⟨fun h => (by cases h), fun h => (by cases h), fun h => (by cases h), fun _ => ⟨za8 (za2 (Below.refl _ w) _) (za3 (Below.refl (w.alloc (dotC d)).heap.size _)), zab (zaj w (dotC d)) (za3 (Below.refl (w.alloc (dotC d)).heap.size _))⟩, fun h => (by cases h)⟩⟩
 clear hS hU hV hbs hr0 hc0 hfit
 go_enter Tryz.func31, Tryz.ntmps31
 go_upto_region 3 with (fail)
 refine AnyOrder.wp_region (by kernel_rfl) (sredoInv w gs n0 c0 A0 d e0 (BackPost w gs base true vr vu (backS l0 d rs us)) _ _ _ _ _ _ _ _ _ _ _ _ _ _ _ _) ⟨false, false, false, false, false, false, false, false, false, false, false, false, false, undef, rfl, rfl, HF0⟩ ?step ?last
 case step =>
  rintro L ac V i ⟨l0, l1, l2, l3, l4, l5, l6, l7, l8, l9, l10, l11, l12, v, rfl, rfl, HF⟩ hi K hK
  have h1 : i = 0 ∨ i = 1 ∨ i = 2 ∨ i = 3 ∨ i = 4 ∨ i = 5 ∨ i = 6 ∨ i = 7 ∨ i = 8 ∨ i = 9 ∨ i = 10 ∨ i = 11 ∨ i = 12 := by
   have h1 := (AnyOrder.mem_ready hi).1
   clear hi hK
   change i < 13 at h1
   omega
  rcases h1 with rfl | rfl | rfl | rfl | rfl | rfl | rfl | rfl | rfl | rfl | rfl | rfl | rfl
  ·
   obtain rfl : l0 = false := (AnyOrder.mem_ready hi).2.1
   clear hi
   refine AnyOrder.wpOp_go rfl (by rfl) ?_
   go_wp2_with fail
   exact ⟨true, l1, l2, l3, l4, l5, l6, l7, l8, l9, l10, l11, l12, v, rfl, rfl, HF⟩
  ·
   obtain rfl : l1 = false := (AnyOrder.mem_ready hi).2.1
   obtain rfl : l0 = true := AnyOrder.dep (q := 0) hi rfl rfl rfl
   clear hi
   simp only [sel_true, selv_true] at hK ⊢
   refine AnyOrder.wpOp_go rfl (by rfl) ?_
   go_wp2_with fail
   exact ⟨true, true, l2, l3, l4, l5, l6, l7, l8, l9, l10, l11, l12, v, rfl, rfl, HF⟩
  ·
   obtain rfl : l2 = false := (AnyOrder.mem_ready hi).2.1
   obtain rfl : l1 = true := AnyOrder.dep (q := 0) hi rfl rfl rfl
   clear hi
   simp only [sel_true, selv_true] at hK ⊢
   refine AnyOrder.wpOp_go rfl (by rfl) ?_
   go_wp2_with fail
   exact ⟨l0, true, true, l3, l4, l5, l6, l7, l8, l9, l10, l11, l12, v, rfl, rfl, HF⟩
  ·
   obtain rfl : l3 = false := (AnyOrder.mem_ready hi).2.1
   clear hi
   refine AnyOrder.wpOp_go rfl (by rfl) ?_
   go_wp2_with fail
   exact ⟨l0, l1, l2, true, l4, l5, l6, l7, l8, l9, l10, l11, l12, v, rfl, rfl, HF⟩
  ·
   obtain rfl : l4 = false := (AnyOrder.mem_ready hi).2.1
   obtain rfl : l3 = true := AnyOrder.dep (q := 0) hi rfl rfl rfl
   clear hi
   simp only [sel_true, selv_true] at hK ⊢
   refine AnyOrder.wpOp_go rfl (by rfl) ?_
   go_wp2_with fail
   exact ⟨l0, l1, l2, true, true, l5, l6, l7, l8, l9, l10, l11, l12, v, rfl, rfl, HF⟩
  ·
   obtain rfl : l5 = false := (AnyOrder.mem_ready hi).2.1
   obtain rfl : l4 = true := AnyOrder.dep (q := 0) hi rfl rfl rfl
   clear hi
   simp only [sel_true, selv_true] at hK ⊢
   refine AnyOrder.wpOp_go rfl (by rfl) ?_
   go_wp2_with fail
   exact ⟨l0, l1, l2, l3, true, true, l6, l7, l8, l9, l10, l11, l12, v, rfl, rfl, HF⟩
  ·
   obtain rfl : l6 = false := (AnyOrder.mem_ready hi).2.1
   clear hi
   refine AnyOrder.wpOp_go rfl (by rfl) ?_
   go_wp2_with fail
   exact ⟨l0, l1, l2, l3, l4, l5, true, l7, l8, l9, l10, l11, l12, v, rfl, rfl, HF⟩
  ·
   obtain rfl : l7 = false := (AnyOrder.mem_ready hi).2.1
   clear hi
   obtain rfl : l8 = false := by cases l8 with | false => rfl | true => cases HF.out.ord rfl
   (try simp only [sel_false, selv_false] at hK ⊢)
   have g0 := (za4 (HF.out.low rfl).2 0).trans rfl
   have g1 := (za4 (HF.out.low rfl).2 1).trans rfl
   refine AnyOrder.wpOp_go rfl (by rfl) ?_
   go_wp2_with fail
   exact ⟨l0, l1, l2, l3, l4, l5, l6, true, false, l9, l10, l11, l12, v, rfl, rfl, ⟨{ HF.out with ord := fun h => (by cases h) }⟩⟩
  ·
   obtain rfl : l8 = false := (AnyOrder.mem_ready hi).2.1
   obtain rfl : l2 = true := AnyOrder.dep (q := 0) hi rfl rfl rfl
   obtain rfl : l5 = true := AnyOrder.dep (q := 1) hi rfl rfl rfl
   obtain rfl : l6 = true := AnyOrder.dep (q := 2) hi rfl rfl rfl
   obtain rfl : l7 = true := AnyOrder.dep (q := 3) hi rfl rfl rfl
   clear hi
   simp only [sel_true, selv_true] at hK ⊢
   obtain rfl : l9 = false := by cases l9 with | false => rfl | true => cases HF.out.o9 rfl
   obtain rfl : l11 = false := by cases l11 with | false => rfl | true => cases HF.out.o11 rfl
   (try simp only [sel_false, selv_false] at hK ⊢)
   refine AnyOrder.wpOp_go rfl (by rfl) ?_
   go_wp2_with fail
   refine (HBACK.out V (HF.out.low rfl).1).mono ?_
   rintro e V' ⟨v', rfl, hp⟩
   exact hK _ _ ⟨l0, l1, true, l3, l4, true, true, true, true, false, l10, false, l12, v', rfl, rfl, ⟨⟨fun _ => rfl, fun h => (by cases h), fun h => (by cases h), fun h => (by cases h), fun _ => hp⟩⟩⟩
  ·
   obtain rfl : l9 = false := (AnyOrder.mem_ready hi).2.1
   obtain rfl : l8 = true := AnyOrder.dep (q := 0) hi rfl rfl rfl
   clear hi
   simp only [sel_true, selv_true] at hK ⊢
   refine AnyOrder.wpOp_go rfl (by rfl) ?_
   go_wp2_with fail
   exact ⟨l0, l1, l2, l3, l4, l5, l6, l7, true, true, l10, l11, l12, v, rfl, rfl, ⟨{ HF.out with o9 := fun _ => rfl }⟩⟩
  ·
   obtain rfl : l10 = false := (AnyOrder.mem_ready hi).2.1
   obtain rfl : l8 = true := AnyOrder.dep (q := 0) hi rfl rfl rfl
   clear hi
   simp only [sel_true, selv_true] at hK ⊢
   refine AnyOrder.wpOp_go rfl (by rfl) ?_
   go_wp2_with fail
   exact ⟨l0, l1, l2, l3, l4, l5, l6, l7, true, l9, true, l11, l12, v, rfl, rfl, HF⟩
  ·
   obtain rfl : l11 = false := (AnyOrder.mem_ready hi).2.1
   obtain rfl : l9 = true := AnyOrder.dep (q := 0) hi rfl rfl rfl
   obtain rfl : l8 = true := AnyOrder.dep (q := 1) hi rfl rfl rfl
   obtain rfl : l0 = true := AnyOrder.dep (q := 2) hi rfl rfl rfl
   obtain rfl : l1 = true := AnyOrder.dep (q := 3) hi rfl rfl rfl
   obtain rfl : l2 = true := AnyOrder.dep (q := 4) hi rfl rfl rfl
   obtain rfl : l3 = true := AnyOrder.dep (q := 5) hi rfl rfl rfl
   obtain rfl : l4 = true := AnyOrder.dep (q := 6) hi rfl rfl rfl
   obtain rfl : l5 = true := AnyOrder.dep (q := 7) hi rfl rfl rfl
   obtain rfl : l6 = true := AnyOrder.dep (q := 8) hi rfl rfl rfl
   obtain rfl : l7 = true := AnyOrder.dep (q := 9) hi rfl rfl rfl
   obtain rfl : l10 = true := AnyOrder.dep (q := 12) hi rfl rfl rfl
   clear hi
   simp only [sel_true, selv_true] at hK ⊢
   refine AnyOrder.wpOp_go rfl (by rfl) ?_
   go_wp2_with fail
   exact ⟨true, true, true, true, true, true, true, true, true, true, true, true, l12, v, rfl, rfl, ⟨{ HF.out with o11 := fun _ => rfl }⟩⟩
  ·
   obtain rfl : l12 = false := (AnyOrder.mem_ready hi).2.1
   obtain rfl : l10 = true := AnyOrder.dep (q := 0) hi rfl rfl rfl
   obtain rfl : l11 = true := AnyOrder.dep (q := 1) hi rfl rfl rfl
   obtain rfl : l0 = true := AnyOrder.dep (q := 2) hi rfl rfl rfl
   obtain rfl : l1 = true := AnyOrder.dep (q := 3) hi rfl rfl rfl
   obtain rfl : l2 = true := AnyOrder.dep (q := 4) hi rfl rfl rfl
   obtain rfl : l3 = true := AnyOrder.dep (q := 5) hi rfl rfl rfl
   obtain rfl : l4 = true := AnyOrder.dep (q := 6) hi rfl rfl rfl
   obtain rfl : l5 = true := AnyOrder.dep (q := 7) hi rfl rfl rfl
   obtain rfl : l6 = true := AnyOrder.dep (q := 8) hi rfl rfl rfl
   obtain rfl : l7 = true := AnyOrder.dep (q := 9) hi rfl rfl rfl
   obtain rfl : l8 = true := AnyOrder.dep (q := 10) hi rfl rfl rfl
   obtain rfl : l9 = true := AnyOrder.dep (q := 11) hi rfl rfl rfl
   clear hi
   simp only [sel_true, selv_true] at hK ⊢
   refine AnyOrder.wpOp_go rfl (by rfl) ?_
   go_wp2_with fail
   exact ⟨true, true, true, true, true, true, true, true, true, true, true, true, true, v, rfl, rfl, HF⟩
 case last =>
  rintro L ac V ⟨l0, l1, l2, l3, l4, l5, l6, l7, l8, l9, l10, l11, l12, v, rfl, rfl, HF⟩ hr
  have hall := AnyOrder.all_listed rfl (by kernel_rfl) hr
  clear hr
  obtain rfl : l0 = true := hall 0 (by decide)
  obtain rfl : l1 = true := hall 1 (by decide)
  obtain rfl : l2 = true := hall 2 (by decide)
  obtain rfl : l3 = true := hall 3 (by decide)
  obtain rfl : l4 = true := hall 4 (by decide)
  obtain rfl : l5 = true := hall 5 (by decide)
  obtain rfl : l6 = true := hall 6 (by decide)
  obtain rfl : l7 = true := hall 7 (by decide)
  obtain rfl : l8 = true := hall 8 (by decide)
  obtain rfl : l9 = true := hall 9 (by decide)
  obtain rfl : l10 = true := hall 10 (by decide)
  obtain rfl : l11 = true := hall 11 (by decide)
  obtain rfl : l12 = true := hall 12 (by decide)
  clear hall
  simp only [sel_true, selv_true]
  go_wp2
  refine bodyPost_ret (Go.results_tmp2 rfl _ _ _) rfl ?_
  exact ⟨_, rfl, HF.out.post rfl⟩
set_option maxRecDepth 100000 in
theorem stackUndos_call (gs : Nat) (A0 A1 : Option Addr) (n0 n1 c0 c1 : Nat) (w : World) (hS : w.heap[gs]? = some (stkC #[.slice A0 n0 c0, .slice A1 n1 c1])) :
  Calls Tryz.prog 12 #[.pointer (some ⟨gs, 0, none⟩)] w fun e w' => e = .returned (.int .i64 (n0 : Int)) ∧ w' = w := by
 have hu4 := Tryz.underlying37
 have g0 : w.cell? ⟨gs, 0, none⟩ = some (.slice A0 n0 c0) := (za4 hS 0).trans rfl
 clear hS
 go_enter Tryz.func12, Tryz.ntmps12
 go_wp2
 go_ret
 exact ⟨rfl, rfl⟩
set_option maxRecDepth 100000 in
theorem stackRedos_call (gs : Nat) (A0 A1 : Option Addr) (n0 n1 c0 c1 : Nat) (w : World) (hS : w.heap[gs]? = some (stkC #[.slice A0 n0 c0, .slice A1 n1 c1])) :
  Calls Tryz.prog 15 #[.pointer (some ⟨gs, 0, none⟩)] w fun e w' => e = .returned (.int .i64 (n1 : Int)) ∧ w' = w := by
 have hu4 := Tryz.underlying37
 have g0 : w.cell? ⟨gs, 1, none⟩ = some (.slice A1 n1 c1) := (za4 hS 1).trans rfl
 clear hS
 go_enter Tryz.func15, Tryz.ntmps15
 go_wp2
 go_ret
 exact ⟨rfl, rfl⟩
end
end Go.Proofs.YtefejajofmpjdaaGreat.PWalk
end
section
namespace Go.Proofs.YtefejajofmpjdaaGreat.PWalk
open Go.RowKit Go.Proofs.YtefejajofmpjdaaGreatW.PrintWords Go.Proofs.YtefejajofmpjdaaGreatW.PrintLast Go.Proofs.YtefejajofmpjdaaGreatW.PrintMore
set_option linter.unusedVariables false
set_option linter.unusedSimpArgs false
section
theorem eqA68 (d : Nat) (w : World) (x0 y0 : Int) (x1 y1 : Int) (x2 y2 : Int) :
  (Op.equalIn (d + 3) 68 (.agg #[.int .i64 x0, .int .i64 x1, .int .i32 x2]) (.agg #[.int .i64 y0, .int .i64 y1, .int .i32 y2])).run Tryz.prog w = .ok ((x0 == y0 && (x1 == y1)) && (x2 == y2)) w := by
 refine eqA_of Tryz.underlying68 (by kernel_rfl) ?_
 refine eqf_cons (by rfl) (by go_simp) (by go_simp) (eqA39 (d + 0) w _ _ _ _) ?_
 exact eqf_last (by rfl) (by go_simp; rfl) (by go_simp; rfl) (by go_simp)
end
end Go.Proofs.YtefejajofmpjdaaGreat.PWalk
end
section
namespace Go.Proofs.YtefejajofmpjdaaGreat.PWalk
open Go.RowKit Go.Proofs.YtefejajofmpjdaaGreatW.PrintWords Go.Proofs.YtefejajofmpjdaaGreatW.PrintLast Go.Proofs.YtefejajofmpjdaaGreatW.PrintMore
set_option linter.unusedVariables false
set_option linter.unusedSimpArgs false
attribute [local go_sem high] eqA39
section
def redpencillaw42_dots.l0 : Nat → List (S39) → List (S39) → Int → Option (Bool)
 | 0, _, _, _ => none
 | k + 1, x0, x1, x5 => if x5 < (x0.length : Int) then (if 0 ≤ x5 then (if x5 < (x1.length : Int) then (if (!(((zas x0 x5).f0) == ((zas x1 x5).f0)) || (!(((zas x0 x5).f1) == ((zas x1 x5).f1)))) = true then (some false) else (redpencillaw42_dots.l0 k x0 x1 (wrap64 (x5 + 1)))) else (none)) else (none)) else (some true)
def redpencillaw42_dots.f (k : Nat) (l0 : List (S39)) (l1 : List (S39)) : Option (Bool) := if (l0.length : Int) = (l1.length : Int) then (redpencillaw42_dots.l0 k l0 l1 0) else (some false)
set_option maxHeartbeats 8000000 in
set_option maxRecDepth 100000 in
theorem redpencillaw42_dots.calls (k : Nat) (A0 : Option Addr) (c0 : Nat) (l0 : List (S39)) (A1 : Option Addr) (c1 : Nat) (l1 : List (S39)) (r : Bool) (w : World) (hr0 : Kd.C k39 w A0 l0.length l0) (hc0 : l0.length ≤ c0) (hr1 : Kd.C k39 w A1 l1.length l1) (hc1 : l1.length ≤ c1) (h : redpencillaw42_dots.f k l0 l1 = some r) :
  Calls Tryz.prog 24 #[.slice A0 l0.length c0, .slice A1 l1.length c1] w fun e w' => e = .returned (.bool r) ∧ zao w w' := by
 have hu39 := Tryz.underlying39
 have HR0 := za0.mk hr0
 have HC0 := za0.mk hc0
 clear hr0 hc0
 have HR1 := za0.mk hr1
 have HC1 := za0.mk hc1
 clear hr1 hc1
 have H : (if (l0.length : Int) = (l1.length : Int) then (redpencillaw42_dots.l0 k l0 l1 0) else (some false)) = some r := h
 clear h
 by_cases c3 : (l0.length : Int) = (l1.length : Int)
 ·
  rw [if_pos c3] at H
  have c3b0 : ((l0.length : Int) == (l1.length : Int)) = true := beq_iff_eq.mpr c3
  have c3b1 : ((l0.length : Int) != (l1.length : Int)) = false := bne_eq_false_iff_eq.mpr c3
  have c3b2 : (l0.length == l1.length) = true := by first | simpa using c3 | (simp at c3 ⊢; omega)
  clear c3
  have H' := za0.mk H
  clear H
  go_enter Tryz.func24, Tryz.ntmps24
  go_wp2
  repeat (go_quiet (fail); try go_wp2)
  go_loopg [5] k (fun kq v5 w' => ∃ (x5_1 : Int), v5 = .int .i64 x5_1 ∧ za0 (redpencillaw42_dots.l0 kq l0 l1 x5_1 = some r) ∧ za0 (kq ≤ k) ∧ zao w w')
  case atStart => exact ⟨(0), (by first | rfl | (simp; done) | (simp [*]; done)), H', ⟨Nat.le_refl _⟩, by repeat (first | exact zao.refl _ | apply zao.step)⟩
  case round =>
   clear H'
   try clear c1
   try clear c2
   try clear p2
   try clear c3
   try clear c3b0
   try clear c3b1
   try clear c3b2
   obtain ⟨x5_1, rfl, HA, HK1, ⟨m1, rfl⟩⟩ := hrel
   cases gk with
   | zero => exact absurd HA.out (by simp [redpencillaw42_dots.l0])
   | succ k1 =>
    have H := HA.out
    clear HA
    simp only [redpencillaw42_dots.l0] at H
    by_cases c4 : x5_1 < (l0.length : Int)
    ·
     rw [if_pos c4] at H
     have c4b0 : decide (x5_1 < (l0.length : Int)) = true := decide_eq_true c4
     clear c4
     by_cases c5 : 0 ≤ x5_1
     ·
      rw [if_pos c5] at H
      have c5b0 : decide (0 ≤ x5_1) = true := decide_eq_true c5
      clear c5
      by_cases c6 : x5_1 < (l1.length : Int)
      ·
       rw [if_pos c6] at H
       have c6b0 : decide (x5_1 < (l1.length : Int)) = true := decide_eq_true c6
       clear c6
       by_cases c7 : (!(((zas l0 x5_1).f0) == ((zas l1 x5_1).f0)) || (!(((zas l0 x5_1).f1) == ((zas l1 x5_1).f1)))) = true
       ·
        rw [if_pos c7] at H
        have c7b0 : (!(((zas l0 x5_1).f0) == ((zas l1 x5_1).f0)) || (!(((zas l0 x5_1).f1) == ((zas l1 x5_1).f1)))) = true := c7
        clear c7
        obtain rfl := Option.some.inj H
        have p132 : 0 ≤ (x5_1 : Int) := of_decide_eq_true (by first | (with_reducible assumption) | assumption)
        have q132 : x5_1 < (l0.length : Int) := of_decide_eq_true (by first | (with_reducible assumption) | assumption)
        obtain ⟨ad132, e132, hx132_0, hx132_1⟩ := at_T39 HR0.out x5_1 p132 q132
        cases e132
        replace p132 := eq_true p132
        replace q132 := eq_true q132
        have p133 : 0 ≤ (x5_1 : Int) := of_decide_eq_true (by first | (with_reducible assumption) | assumption)
        have q133 : x5_1 < (l1.length : Int) := of_decide_eq_true (by first | (with_reducible assumption) | assumption)
        obtain ⟨ad133, e133, hx133_0, hx133_1⟩ := at_T39 HR1.out x5_1 p133 q133
        cases e133
        replace p133 := eq_true p133
        replace q133 := eq_true q133
        go_wp2
        repeat (go_quiet (fail); try go_wp2)
        go_ret
        exact ⟨by first | rfl | (simp; done) | (simp [*]; done), by repeat (first | exact zao.refl _ | apply zao.step)⟩
       ·
        rw [if_neg c7] at H
        have c7b0 : (!(((zas l0 x5_1).f0) == ((zas l1 x5_1).f0)) || (!(((zas l0 x5_1).f1) == ((zas l1 x5_1).f1)))) = false := by simpa using c7
        clear c7
        have H' := za0.mk H
        clear H
        have p132 : 0 ≤ (x5_1 : Int) := of_decide_eq_true (by first | (with_reducible assumption) | assumption)
        have q132 : x5_1 < (l0.length : Int) := of_decide_eq_true (by first | (with_reducible assumption) | assumption)
        obtain ⟨ad132, e132, hx132_0, hx132_1⟩ := at_T39 HR0.out x5_1 p132 q132
        cases e132
        replace p132 := eq_true p132
        replace q132 := eq_true q132
        have p133 : 0 ≤ (x5_1 : Int) := of_decide_eq_true (by first | (with_reducible assumption) | assumption)
        have q133 : x5_1 < (l1.length : Int) := of_decide_eq_true (by first | (with_reducible assumption) | assumption)
        obtain ⟨ad133, e133, hx133_0, hx133_1⟩ := at_T39 HR1.out x5_1 p133 q133
        cases e133
        replace p133 := eq_true p133
        replace q133 := eq_true q133
        go_wp2
        repeat (go_quiet (fail); try go_wp2)
        go_roundg k1
        case measure => have := HK1.out; omega
        case rel => exact ⟨(wrap64 (x5_1 + 1)), (by first | rfl | (simp; done) | (simp [*]; done)), H', ⟨by have := HK1.out; omega⟩, by repeat (first | exact zao.refl _ | apply zao.step)⟩
      ·
       rw [if_neg c6] at H
       exact absurd H (by simp)
     ·
      rw [if_neg c5] at H
      exact absurd H (by simp)
    ·
     rw [if_neg c4] at H
     have c4b0 : decide (x5_1 < (l0.length : Int)) = false := decide_eq_false c4
     clear c4
     obtain rfl := Option.some.inj H
     go_wp2
     repeat (go_quiet (fail); try go_wp2)
     go_ret
     exact ⟨by first | rfl | (simp; done) | (simp [*]; done), by repeat (first | exact zao.refl _ | apply zao.step)⟩
 ·
  rw [if_neg c3] at H
  have c3b0 : ((l0.length : Int) == (l1.length : Int)) = false := beq_eq_false_iff_ne.mpr c3
  have c3b1 : ((l0.length : Int) != (l1.length : Int)) = true := bne_iff_ne.mpr c3
  have c3b2 : (l0.length == l1.length) = false := by first | simpa using c3 | (simp at c3 ⊢; omega)
  obtain rfl := Option.some.inj H
  go_enter Tryz.func24, Tryz.ntmps24
  go_wp2
  repeat (go_quiet (fail); try go_wp2)
  go_ret
  exact ⟨by first | rfl | (simp; done) | (simp [*]; done), by repeat (first | exact zao.refl _ | apply zao.step)⟩
end
end Go.Proofs.YtefejajofmpjdaaGreat.PWalk
end
