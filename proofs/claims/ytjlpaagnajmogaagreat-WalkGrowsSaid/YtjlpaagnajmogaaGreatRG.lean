/-
  A store with a further node, the child of a reached one or of the root at a time greater than all others: it follows directly on its parent, and nothing else changes in the order; for every list of nodes, number and dot. Part 7 of 11.
-/
import Derived.Test.YtjlpaagnajmogaaGreatRF
import Derived.Sort.QuietTacIn
import Derived.OrdersIn
section
namespace Go.Proofs.YtjlpaagnajmogaaGreat.PWalk
open Go.RowKit Go.Proofs.YtjlpaagnajmogaaGreatW.PrintWords Go.Proofs.YtjlpaagnajmogaaGreatW.PrintLast Go.Proofs.YtjlpaagnajmogaaGreatW.PrintMore
set_option linter.unusedVariables false
set_option linter.unusedSimpArgs false
open Go.Shelf
attribute [local go_sem] Oper.semAt_some
set_option maxHeartbeats 2000000 in
set_option maxRecDepth 100000 in
theorem below_fn (n O fb n₀ mp : Nat) (E : Nat → Prop) (l : List Node) (d : Dot) (dep : Nat) (U : List Node) (hn : 1 ≤ n) (hs : Store l) (hU : Path l d U) (hl : l.length ≤ 1000000) (hlen : (belowOf l dep d).length ≤ 1000000) (hdep : dep ≤ 1000000) (J : Nat → World → Prop) (W : World)
  (hm : ∀ k A B, ListRange.Mv ownT W.heap.size A B → J k A → J k B)
  (hY : ∀ k x V, (belowOf l dep d)[k]? = some x → J k V → CallsIn Fence.wide (n - 1) Tryz.prog 96 #[.int .i64 ((x : Nat × Node).1 : Int), vNode x.2, .pointer (some ⟨O, 0, none⟩)] V fun e V' => e = .returned (.bool true) ∧ J (k + 1) V' ∧ KpT n₀ E V V')
  (hF : FamsIn fb n₀ E W mp l) (h0 : J 0 W) :
  CallsIn Fence.wide n Tryz.prog 95 #[vFam mp, vDot d, .int .i64 (dep : Int), .func (.func 96) #[] #[.pointer (some ⟨O, 0, none⟩)]] W fun e V => (∃ v, e = .returned v) ∧ J (belowOf l dep d).length V := by
 have HM := Aside0.mk hm
 have HY := Aside0.mk hY
 have HS := Aside0.mk hs
 have HU := Aside0.mk hU
 have HL := Aside0.mk hl
 have HLEN := Aside0.mk hlen
 have HDEP := Aside0.mk hdep
 have HF := Aside0.mk hF
 have HJ := Aside0.mk h0
 clear hm hY hs hU hl hlen hdep hF h0
 refine callsIn_of_wp Tryz.func95 rfl trivial ?_ rfl
 simp only [Tryz.ntmps95, List.size_toArray, List.length_cons, List.length_nil, Nat.reduceAdd, Nat.reduceSub, Array.replicate_succ, Array.replicate_zero, List.push_toArray, List.append_toArray, List.nil_append, List.cons_append]
 gi_wp2
 have hgr : Gr W (((W.alloc (boxF mp)).alloc (dotC d)).alloc (TODOc (.slice none 0 0))) := ((Gr.alloc _ _).trans (Gr.alloc _ _)).trans (Gr.alloc _ _)
 have HF1 := Aside0.mk (HF.out.below hgr.below)
 have HBF : Aside0 ((((W.alloc (boxF mp)).alloc (dotC d)).alloc (TODOc (.slice none 0 0))).heap[W.heap.size]? = some (boxF mp)) := ⟨blk_alloc (blk_alloc (blk_new _ _) _) _⟩
 have HBT : Aside0 ((((W.alloc (boxF mp)).alloc (dotC d)).alloc (TODOc (.slice none 0 0))).heap[W.heap.size + 1 + 1]? = some (TODOc (.slice none 0 0))) := ⟨by have := blk_new ((W.alloc (boxF mp)).alloc (dotC d)) (TODOc (.slice none 0 0)); rwa [World.size_alloc, World.size_alloc] at this⟩
 have HSZ : Aside0 (W.heap.size + 3 = (((W.alloc (boxF mp)).alloc (dotC d)).alloc (TODOc (.slice none 0 0))).heap.size) := ⟨by rw [World.size_alloc, World.size_alloc, World.size_alloc]⟩
 have HMV : Aside0 (ListRange.Mv ownT W.heap.size W (((W.alloc (boxF mp)).alloc (dotC d)).alloc (TODOc (.slice none 0 0)))) := ⟨ListRange.Mv.below hgr.below⟩
 clear hgr HF
 generalize ((W.alloc (boxF mp)).alloc (dotC d)).alloc (TODOc (.slice none 0 0)) = W1 at *
 obtain ⟨b0, Hb0⟩ : ∃ b0, Aside0 (W.heap.size = b0) := ⟨_, ⟨rfl⟩⟩
 obtain ⟨T, HT⟩ : ∃ T, Aside0 (W.heap.size + 1 + 1 = T) := ⟨_, ⟨rfl⟩⟩
 obtain ⟨Dd, HD⟩ : ∃ Dd, Aside0 (W.heap.size + 1 = Dd) := ⟨_, ⟨rfl⟩⟩
 obtain ⟨F, HFe⟩ : ∃ F, Aside0 (W.heap.size = F) := ⟨_, ⟨rfl⟩⟩
 rw [HT.out] at HBT
 rw [HFe.out] at HBF
 rw [show (Value.pointer (some { block := W.heap.size + 1 + 1, off := 0 })) = .pointer (some ⟨T, 0, none⟩) by rw [HT.out], show (Value.pointer (some { block := W.heap.size + 1, off := 0 })) = .pointer (some ⟨Dd, 0, none⟩) by rw [HD.out], show (Value.pointer (some { block := W.heap.size, off := 0 })) = .pointer (some ⟨F, 0, none⟩) by rw [HFe.out]]
 have HJ1 := Aside0.mk (HM.out 0 W W1 HMV.out HJ.out)
 have hlow : b0 ≤ T ∧ b0 ≤ W1.heap.size := by have h1 := HSZ.out; have h2 := Hb0.out; have h3 := HT.out; omega
 have HLOW := Aside0.mk hlow
 refine ⟨trivial, CallsIn.mono (callsIn_wide.2 (push_call fb b0 mp F T l d dep [] (.slice none 0 0) W1 HF1.out.fams HBF.out HBT.out (Todo.nil _ _) hlow.2 HL.out (by rw [List.length_nil]; have h1 := stepOf_kids_le l d; have h2 := HL.out; omega))) ?_⟩
 rintro e W2 ⟨⟨r, rfl⟩, u, hT2, hu2, hro, htc⟩
 have HSTART : Aside0 (BlwF fb n₀ E J mp F T b0 l dep d 0 ((kids l d).map fun y => (dep, y)).reverse u W2) := ⟨by
  have hR : ∀ g, (Value.slice none 0 0).ownBlock = some g → b0 ≤ g ∧ ∃ cur, W1.heap[g]? = some (.cells cur 144 (0, 0)) := fun g hg => by cases hg
  exact ⟨Stk.start HS.out HU.out dep, hT2, by simpa using hu2, ⟨hlow.1, Nat.le_trans hlow.2 htc.size⟩, BlwF.fams HF1.out HBT.out hR htc, push_far HBT.out hR htc HBF.out ⟨by decide, by decide⟩, HM.out 0 W1 W2 (BlwF.mv (Nat.le_of_eq Hb0.out) hlow.1 HBT.out hR htc) HJ1.out⟩⟩
 clear hT2 hu2 hro htc hlow HF1 HBF HBT HMV HJ1
 gi_wp2
 gi_loopg [] (belowOf l dep d).length (fun gk wr => ∃ (k : Nat) (S : List (Nat × Node)) (u : Value), gk + k = (belowOf l dep d).length ∧ Aside0 (BlwF fb n₀ E J mp F T b0 l dep d k S u wr))
 case atStart => exact ⟨0, _, u, rfl, HSTART⟩
 case round =>
  obtain ⟨k, S, u', hk, HB⟩ := hrel
  clear HSTART
  rcases List.eq_nil_or_concat S with rfl | ⟨S', p, rfl⟩
  ·
   obtain ⟨A', c', rfl⟩ := HB.out.row.slice
   have cT : wr.cell? ⟨T, 0, none⟩ = _ := (blk_cell HB.out.todoC 0).trans rfl
   have HEND : Aside0 (J (belowOf l dep d).length wr) := ⟨by have h1 := HB.out.stk.empty; have h2 := HB.out.j; rwa [show k = (belowOf l dep d).length by omega] at h2⟩
   gi_wp2
   go_end0
   exact ⟨⟨_, rfl⟩, HEND.out⟩
  ·
   rw [List.concat_eq_append] at HB
   obtain ⟨g, c, rfl, hg, ⟨cur, hcur⟩, hcells, htd⟩ := HB.out.row.last
   obtain ⟨hx, hst⟩ := HB.out.stk.step HS.out
   obtain ⟨m, Hm⟩ : ∃ m, Aside0 (S'.length = m) := ⟨_, ⟨rfl⟩⟩
   rw [Hm.out] at hcells htd HB
   have cT : wr.cell? ⟨T, 0, none⟩ = _ := (blk_cell HB.out.todoC 0).trans rfl
   have hm6 : m ≤ 1000000 := by have h1 := hst.le; have h2 := HLEN.out; have h3 := Hm.out; rw [List.length_append] at h1; omega
   have hwl : wrap64 (((m + 1 : Nat) : Int) - 1) = (m : Int) := by unfold wrap64; omega
   have hgt : decide (((m + 1 : Nat) : Int) > 0) = true := decide_eq_true (by omega)
   have p0 : wr.cell? ⟨g, m * 7, none⟩ = some (.int .i64 p.2.f0.f0) := hcells 0 _ rfl
   have p1 : wr.cell? ⟨g, m * 7 + 1, none⟩ = some (.int .i64 p.2.f0.f1) := hcells 1 _ rfl
   have p2 : wr.cell? ⟨g, m * 7 + 2, none⟩ = some (.int .i64 p.2.f1.f0) := hcells 2 _ rfl
   have p3 : wr.cell? ⟨g, m * 7 + 3, none⟩ = some (.int .i64 p.2.f1.f1) := hcells 3 _ rfl
   have p4 : wr.cell? ⟨g, m * 7 + 4, none⟩ = some (.int .i64 p.2.f2) := hcells 4 _ rfl
   have p5 : wr.cell? ⟨g, m * 7 + 5, none⟩ = some (.int .i32 p.2.f3) := hcells 5 _ rfl
   have p6 : wr.cell? ⟨g, m * 7 + 6, none⟩ = some (.int .i64 (p.1 : Int)) := hcells 6 _ rfl
   have HX := Aside0.mk hx
   have HST := Aside0.mk hst
   have HTD := Aside0.mk htd
   have HCUR := Aside0.mk hcur
   have HG := Aside0.mk hg
   clear hx hst htd hcells hcur hg
   have hT1 : (wr.alloc (boxS p)).heap[T]? = some (TODOc (.slice (some ⟨g, 0, none⟩) (m + 1) c)) := blk_alloc HB.out.todoC _
   have cT1 : (wr.alloc (boxS p)).cell? ⟨T, 0, none⟩ = _ := (blk_cell hT1 0).trans rfl
   have fT1 := blk_frozen hT1 0
   have hmc : m ≤ c := HTD.out.cap.1
   have hmx : c ≤ 9223372036854775807 := HTD.out.cap.2
   obtain ⟨Bx, HBx⟩ : ∃ Bx, Aside0 (wr.heap.size = Bx) := ⟨_, ⟨rfl⟩⟩
   have hBT : Bx ≠ T := fun e => by have := blk_lt HB.out.todoC; have := HBx.out; omega
   have hX3 : ((wr.alloc (boxS p)).setCell ⟨T, 0, none⟩ (.slice (some ⟨g, 0, none⟩) m c)).heap[Bx]? = some (boxS p) := by rw [Below.heap_setCell _ _ _ Bx hBT, ← HBx.out]; exact blk_new _ _
   have q0 : ((wr.alloc (boxS p)).setCell ⟨T, 0, none⟩ (.slice (some ⟨g, 0, none⟩) m c)).cell? ⟨Bx, 0, none⟩ = _ := (blk_cell hX3 0).trans rfl
   have q1 : ((wr.alloc (boxS p)).setCell ⟨T, 0, none⟩ (.slice (some ⟨g, 0, none⟩) m c)).cell? ⟨Bx, 1, none⟩ = _ := (blk_cell hX3 1).trans rfl
   have q2 : ((wr.alloc (boxS p)).setCell ⟨T, 0, none⟩ (.slice (some ⟨g, 0, none⟩) m c)).cell? ⟨Bx, 2, none⟩ = _ := (blk_cell hX3 2).trans rfl
   have q3 : ((wr.alloc (boxS p)).setCell ⟨T, 0, none⟩ (.slice (some ⟨g, 0, none⟩) m c)).cell? ⟨Bx, 3, none⟩ = _ := (blk_cell hX3 3).trans rfl
   have q4 : ((wr.alloc (boxS p)).setCell ⟨T, 0, none⟩ (.slice (some ⟨g, 0, none⟩) m c)).cell? ⟨Bx, 4, none⟩ = _ := (blk_cell hX3 4).trans rfl
   have q5 : ((wr.alloc (boxS p)).setCell ⟨T, 0, none⟩ (.slice (some ⟨g, 0, none⟩) m c)).cell? ⟨Bx, 5, none⟩ = _ := (blk_cell hX3 5).trans rfl
   have q6 : ((wr.alloc (boxS p)).setCell ⟨T, 0, none⟩ (.slice (some ⟨g, 0, none⟩) m c)).cell? ⟨Bx, 6, none⟩ = _ := (blk_cell hX3 6).trans rfl
   rw [← HBx.out] at q0 q1 q2 q3 q4 q5 q6
   have HX3 := Aside0.mk hX3
   have HMV3 : Aside0 (ListRange.Mv ownT b0 wr ((wr.alloc (boxS p)).setCell ⟨T, 0, none⟩ (.slice (some ⟨g, 0, none⟩) m c))) := ⟨by
    refine (ListRange.Mv.below (Gr.alloc wr (boxS p)).below).trans (mv_tch (X := fun i => i = T) ⟨rfl, rfl, rfl, by rw [World.size_setCell]; exact Nat.le_refl _, fun i hi hne => Below.heap_setCell _ _ _ i hne⟩ fun i hi e => ?_)
    subst e
    exact ⟨HB.out.low.1, _, _, hT1, .inr (.inr rfl)⟩⟩
   have HT3 : Aside0 (((wr.alloc (boxS p)).setCell ⟨T, 0, none⟩ (.slice (some ⟨g, 0, none⟩) m c)).heap[T]? = some (TODOc (.slice (some ⟨g, 0, none⟩) m c))) := ⟨blk_set hT1 0 _⟩
   have HR3 : Aside0 (Todo ((wr.alloc (boxS p)).setCell ⟨T, 0, none⟩ (.slice (some ⟨g, 0, none⟩) m c)) b0 (.slice (some ⟨g, 0, none⟩) m c) S') := ⟨(HTD.out.below (Gr.alloc wr (boxS p)).below).keep fun q hq => Below.heap_setCell _ _ _ q (fun e => by
    cases hq
    have h1 := blk_alloc HCUR.out (boxS p)
    have e' : g = T := e
    rw [e', hT1] at h1
    exact absurd (Obj.cells.inj (Option.some.inj h1)).2.1 (by decide))⟩
   have HF3 : Aside0 (((wr.alloc (boxS p)).setCell ⟨T, 0, none⟩ (.slice (some ⟨g, 0, none⟩) m c)).heap[F]? = some (boxF mp)) := ⟨by
    rw [Below.heap_setCell _ _ _ F (fun e => by
     have h1 := blk_alloc HB.out.box (boxS p)
     have e' : F = T := e
     rw [e', hT1] at h1
     exact absurd (Obj.cells.inj (Option.some.inj h1)).2.1 (by decide))]
    exact blk_alloc HB.out.box _⟩
   have HFM3 : Aside0 (FamsIn fb n₀ E ((wr.alloc (boxS p)).setCell ⟨T, 0, none⟩ (.slice (some ⟨g, 0, none⟩) m c)) mp l) := ⟨(HB.out.fam.below (Gr.alloc wr (boxS p)).below).tch (X := fun i => i = T) ⟨rfl, rfl, rfl, by rw [World.size_setCell]; exact Nat.le_refl _, fun i hi hne => Below.heap_setCell _ _ _ i hne⟩ fun i cc t e hc => by
    subst e
    rw [hT1] at hc; cases hc; exact .inr (.inr rfl)⟩
   have HJ3 := Aside0.mk (HM.out k _ _ (HMV3.out.mono (Nat.le_of_eq Hb0.out)) HB.out.j)
   have HLO := Aside0.mk HB.out.low
   have HRR := Aside0.mk (HY.out k p _ HX.out HJ3.out)
   have hkl : k < (belowOf l dep d).length := (List.getElem?_eq_some_iff.1 HX.out).1
   have HP1 : Aside0 (p.1 ≤ 2000000) := ⟨by
    obtain ⟨V, hV, hp⟩ := HB.out.stk.way p (by simp)
    have h1 := hV.le HS.out
    have h2 := HL.out
    have h3 := HDEP.out
    simp only [List.length_cons] at h1
    omega⟩
   clear hT1 hBT
   gi_wp2
   refine ⟨trivial, CallsIn.mono HRR.out ?_⟩
   clear q0 q1 q2 q3 q4 q5 q6 cT1 fT1 p0 p1 p2 p3 p4 p5 p6 cT
   rintro e V ⟨rfl, hJ4, hK4⟩
   ·
    have hX4 := hK4.own _ _ _ HX3.out (.inr (.inl rfl))
    have hT4 := hK4.own _ _ _ HT3.out (.inr (.inr rfl))
    have hF4 := hK4.own _ _ _ HF3.out (.inl rfl)
    have hR4 : Todo V b0 (.slice (some ⟨g, 0, none⟩) m c) S' := HR3.out.keep fun q hq => by
     obtain ⟨_, cur, hc⟩ := HR3.out.block hq
     exact (hK4.own _ _ _ hc (.inr (.inl rfl))).trans hc.symm
    have hM4 := HFM3.out.kp hK4.kp
    rw [← HBx.out] at hX4
    have q0 : V.cell? ⟨wr.heap.size, 0, none⟩ = _ := (blk_cell hX4 0).trans rfl
    have q1 : V.cell? ⟨wr.heap.size, 1, none⟩ = _ := (blk_cell hX4 1).trans rfl
    have q6 : V.cell? ⟨wr.heap.size, 6, none⟩ = _ := (blk_cell hX4 6).trans rfl
    have hp1 := HP1.out
    have hwd : wrap64 ((p.1 : Int) + 1) = ((p.1 + 1 : Nat) : Int) := by unfold wrap64; omega
    have HT4 := Aside0.mk hT4
    have HF4 := Aside0.mk hF4
    have HR4 := Aside0.mk hR4
    have HM4 := Aside0.mk hM4
    have HJ4 := Aside0.mk hJ4
    have HLV : Aside0 (b0 ≤ V.heap.size) := ⟨Nat.le_trans (Nat.le_trans HLO.out.2 HMV3.out.size) hK4.kp.1⟩
    clear hX4 hT4 hF4 hR4 hM4 hJ4 hK4 hp1
    gi_wp2
    rw [show ((p.1 : Int) + 1) = ((p.1 + 1 : Nat) : Int) by omega]
    refine ⟨trivial, CallsIn.mono (callsIn_wide.2 (push_call fb b0 mp F T l p.2.f0 (p.1 + 1) S' (.slice (some ⟨g, 0, none⟩) m c) V HM4.out.fams HF4.out HT4.out HR4.out HLV.out HL.out (by have h1 := HST.out.le; have h2 := HLEN.out; rw [List.length_append, List.length_reverse, List.length_map] at h1; omega))) ?_⟩
    rintro e V2 ⟨⟨r2, rfl⟩, u2, hT5, hu5, hro, htc⟩
    have HB5 : Aside0 (BlwF fb n₀ E J mp F T b0 l dep d (k + 1) (S' ++ ((kids l p.2.f0).map fun y => (p.1 + 1, y)).reverse) u2 V2) := ⟨⟨HST.out, hT5, hu5, ⟨HLO.out.1, Nat.le_trans HLV.out htc.size⟩, BlwF.fams HM4.out HT4.out (fun q hq => HR4.out.block hq) htc, push_far HT4.out (fun q hq => HR4.out.block hq) htc HF4.out ⟨by decide, by decide⟩, HM.out (k + 1) V V2 (BlwF.mv (Nat.le_of_eq Hb0.out) HLO.out.1 HT4.out (fun q hq => HR4.out.block hq) htc) HJ4.out⟩⟩
    clear hT5 hu5 hro htc
    gi_wp2
    gi_roundg (gk - 1)
    case measure => omega
    case rel => exact ⟨k + 1, _, u2, by omega, HB5⟩
set_option maxHeartbeats 1000000 in
set_option maxRecDepth 100000 in
theorem below1_call (w : World) (n₀ O : Nat) (xs : List Dot) (x : Node) (dep : Nat) (W : World) (hn : w.heap.size ≤ n₀) (hO : w.heap.size ≤ O) (h : CollD w n₀ O xs W) (hW : n₀ ≤ W.heap.size) (hl : xs.length ≤ 1000000) :
  Calls Tryz.prog 96 #[.int .i64 (dep : Int), vNode x, .pointer (some ⟨O, 0, none⟩)] W fun e W' => e = .returned (.bool true) ∧ (CollD w n₀ O (xs ++ [x.f0]) W' ∧ n₀ ≤ W'.heap.size) ∧ KpT n₀ (fun i => i = O) W W' := by
 have HN := Aside0.mk hn
 have HOL := Aside0.mk hO
 have HW := Aside0.mk hW
 have HL := Aside0.mk hl
 obtain ⟨⟨u, h1, h2⟩, h3⟩ := h
 have hg1 := Gr.alloc W (boxN x)
 obtain ⟨u2, w3, hrun, hrd, hgr, hat⟩ := run_append_dot n₀ 41 u xs x.f0 (W.heap.size + 1) 1 ((W.alloc (boxN x)).alloc (dotC x.f0)) (RD.below' (RD.below' h2 hg1.below) (Gr.alloc _ _).below) (by have := blk_new (W.alloc (boxN x)) (dotC x.f0); rwa [World.size_alloc] at this) (Nat.le_trans hW (by rw [World.size_alloc, World.size_alloc]; omega)) (by omega)
 have hput := CollD.put hn hO h1 h2 h3 (hg1.trans (Gr.alloc _ _)) hgr hrd hat hW
 have hO3 : w3.heap[O]? = some (outD u) := (hgr.block O (Nat.lt_of_lt_of_le (blk_lt h1) (hg1.trans (Gr.alloc _ (dotC x.f0))).below.size) (fun e => by
  obtain ⟨_, cur, hc⟩ := h2.block e.symm
  rw [h1] at hc
  exact absurd (Obj.cells.inj (Option.some.inj hc)).2.1 (by decide))).trans (blk_alloc (blk_alloc h1 _) _)
 obtain ⟨A, c, rfl⟩ := h2.slice
 obtain ⟨A2, c2, rfl⟩ := hrd.slice
 obtain ⟨m, hm⟩ : ∃ m, xs.length = m := ⟨_, rfl⟩
 obtain ⟨m2, hm2⟩ : ∃ m2, (xs ++ [x.f0]).length = m2 := ⟨_, rfl⟩
 rw [hm] at h1 h2 hrun hgr hat hO3
 rw [hm2] at hrun hrd hat hput
 clear hm hm2
 have cO : (W.alloc (boxN x)).cell? ⟨O, 0, none⟩ = _ := (blk_cell (blk_alloc h1 _) 0).trans rfl
 have hNb : (W.alloc (boxN x)).heap[W.heap.size]? = some (boxN x) := blk_new _ _
 have n0 : (W.alloc (boxN x)).cell? ⟨W.heap.size, 0, none⟩ = _ := (blk_cell hNb 0).trans rfl
 have n1 : (W.alloc (boxN x)).cell? ⟨W.heap.size, 1, none⟩ = _ := (blk_cell hNb 1).trans rfl
 have cO3 : w3.cell? ⟨O, 0, none⟩ = _ := (blk_cell hO3 0).trans rfl
 have fO3 := blk_frozen hO3 0
 have HRUN := Aside0.mk hrun
 have HPUT := Aside0.mk hput
 have HSZ3 : Aside0 (n₀ ≤ w3.heap.size) := ⟨Nat.le_trans (Nat.le_trans hW (by rw [World.size_alloc, World.size_alloc]; omega)) hgr.size⟩
 clear h1 h2 h3 hrun hrd hgr hat hput hO3 hNb hn hO hW hg1 hl
 go_enter Tryz.func96, Tryz.ntmps96
 go_wp2_with (at_builtin; refine wpList_append_eq rfl (.tmp 6) (.tmp 9) 41 rfl rfl rfl HRUN.out ?_)
 go_ret
 exact ⟨rfl, ⟨HPUT.out.2.2, by rw [World.size_setCell]; exact HSZ3.out⟩, HPUT.out.2.1⟩
theorem belowN_length (l : List Node) : ∀ (n dep dep' : Nat) (d : Dot), (belowN l n dep d).length = (belowN l n dep' d).length
 | 0, _, _, _ => rfl
 | n + 1, dep, dep', d => by
  rw [belowN, belowN, List.length_flatMap, List.length_flatMap]
  congr 1
  refine List.map_congr_left fun x _ => ?_
  rw [List.length_cons, List.length_cons, belowN_length l n (dep + 1) (dep' + 1) x.f0]
theorem below_le {l : List Node} (hs : Store l) {d : Dot} {U : List Node} (h : Path l d U) (dep : Nat) : (belowOf l dep d).length ≤ l.length := by
 unfold belowOf
 rw [belowN_length l _ dep U.length d]
 have hn := belowN_nodup hs (n := l.length + 1) h rfl
 have h2 : ((belowN l (l.length + 1) U.length d).map (·.2)).Nodup := by
  refine List.Pairwise.map (R := fun a b => a ≠ b ∧ a ∈ belowN l (l.length + 1) U.length d ∧ b ∈ belowN l (l.length + 1) U.length d) _ (fun a b ⟨hab, ha, hb⟩ e => ?_) ?_
  ·
   obtain ⟨_, _, V1, _, h1, h2, _⟩ := mem_belowN hs h rfl ha
   obtain ⟨_, _, V2, _, k1, k2, _⟩ := mem_belowN hs h rfl hb
   have e' : a.2 = b.2 := e
   rw [e'] at h1
   have := (List.cons.inj (h1.unique hs k1)).2
   subst this
   exact hab (Prod.ext (by omega) e')
  ·
   exact List.Pairwise.imp_of_mem (fun ha hb h => ⟨h, ha, hb⟩) hn
 have := nodup_le h2 (l := l) fun x hx => by
  obtain ⟨p, hp, rfl⟩ := List.mem_map.1 hx
  obtain ⟨_, _, V, _, h1, _, _⟩ := mem_belowN hs h rfl hp
  exact h1.mem _ List.mem_cons_self
 simpa using this
theorem findWay_some {d : Dot} : ∀ (L : List (Nat × Node)) (P : List Dot), (findWay d L P).isSome = true ↔ d ∈ dts L
 | [], P => by simp [findWay, dts]
 | p :: L, P => by
  rw [findWay]
  by_cases h : p.2.f0 = d
  ·
   rw [if_pos h]; simp [dts, h]
  ·
   rw [if_neg h, findWay_some L]
   unfold dts
   rw [List.map_cons, List.mem_cons]
   exact ⟨.inr, fun h2 => h2.resolve_left (fun e => h e.symm)⟩
theorem reach_iff {l : List Node} (hs : Store l) {d : Dot} (hd : d ≠ ⟨0, 0⟩) : d ∈ dts (ordOf l) ↔ (pathOf l d).isSome = true := by
 rw [← findWay_is hs hd]; exact (findWay_some _ _).symm
/-- The region that asks whether a dot is reached, where the dot is not the root. -/
structure BlwF3 (w : World) (B3 : Nat) (d : Dot) (ds : List Dot) (u : Value) (l5 : Bool) (V : World) : Prop where
 below : Below w.heap.size w V
 key : V.heap[B3]? = some (dotC d)
 row : l5 = true → RD V w.heap.size u ds
structure BlwF6 (w : World) (B3 O mp : Nat) (d : Dot) (ll : List Node) (ys : List Dot) (l1 l2 l4 : Bool) (V : World) : Prop where
 ord4 : l4 = true → l1 = true ∧ l2 = true
 below : Below w.heap.size w V
 key : l4 = false → V.heap[B3]? = some (dotC d)
 out : l4 = false → V.heap[O]? = some (outD (.slice none 0 0))
 fam : l1 = true → l4 = false → Fams w.heap.size V mp ll
 fin : l4 = true → ∃ v, V.heap[O]? = some (outD v) ∧ RD V w.heap.size v ys
theorem BlwF6.no4 {w : World} {B3 O mp : Nat} {d : Dot} {ll : List Node} {ys : List Dot} {l1 l2 l4 : Bool} {V : World} (h : BlwF6 w B3 O mp d ll ys l1 l2 l4 V) (hl : l1 = false ∨ l2 = false) : l4 = false := by
 cases l4 with
 | false => rfl
 | true =>
  obtain ⟨h1, h2⟩ := h.ord4 rfl
  subst h1 h2
  simp at hl
theorem dts_take {L : List (Nat × Node)} {k : Nat} {x : Nat × Node} (h : L[k]? = some x) : dts (L.take (k + 1)) = dts (L.take k) ++ [x.2.f0] := by
 unfold dts
 rw [List.take_succ_eq_append_getElem (List.getElem?_eq_some_iff.1 h).1, (List.getElem?_eq_some_iff.1 h).2, List.map_append]; rfl
theorem below_out (w : World) (mp O : Nat) (ll : List Node) (d : Dot) (U : List Node) (V : World) (hs : Store ll) (hU : Path ll d U) (hl : ll.length ≤ 1000000) (hb : Below w.heap.size w V) (hO : V.heap[O]? = some (outD (.slice none 0 0))) (hOl : w.heap.size ≤ O) (hF : Fams w.heap.size V mp ll) :
  Calls Tryz.prog 95 #[vFam mp, vDot d, .int .i64 0, .func (.func 96) #[] #[.pointer (some ⟨O, 0, none⟩)]] V fun e V' => ∃ r, e = .returned r ∧ Below w.heap.size w V' ∧ ∃ v, V'.heap[O]? = some (outD v) ∧ RD V' w.heap.size v (dts (belowOf ll 0 d)) := by
 have hlen := Nat.le_trans (below_le hs hU 0) hl
 refine (callsIn_wide.1 (below_fn 9 O w.heap.size V.heap.size mp (fun i => i = O) ll d 0 U (by decide) hs hU hl hlen (by decide) (fun k X => CollD w V.heap.size O (dts ((belowOf ll 0 d).take k)) X ∧ V.heap.size ≤ X.heap.size) V
  (fun k A B hm hs => ⟨hs.1.mv hm hb.size, Nat.le_trans hs.2 hm.size⟩)
  (fun k x X hx hj => callsIn_wide.2 ((below1_call w V.heap.size O _ x.2 x.1 X hb.size hOl hj.1 hj.2 (by
   unfold dts
   rw [List.length_map, List.length_take]
   omega)).mono fun e X' ⟨h1, h2, h3⟩ => ⟨h1, by rw [dts_take hx]; exact h2, h3⟩))
  (FamsIn.of hF (Nat.le_refl _) fun i c t he hc => by subst he; rw [hO] at hc; cases hc; decide)
  ⟨⟨⟨_, hO, Kd.R_nil _ _ _ _ _⟩, hb⟩, Nat.le_refl _⟩)).mono ?_
 rintro e V' ⟨⟨r, rfl⟩, h, _⟩
 rw [List.take_length] at h
 obtain ⟨⟨v, h1, h2⟩, h3⟩ := h
 exact ⟨r, rfl, h3, v, h1, Kd.R_lower h2 hb.size⟩
def blw3Inv (w : World) (A0 : Option Addr) (n c0 B3 : Nat) (d : Dot) (ds : List Dot) (b : Bool) (z6 z7 z8 z9 z10 z11 z12 z13 z14 z15 z16 z17 z18 z19 z20 z21 z22 z23 z24 z25 z26 z27 z28 z29 z30 z31 z32 z33 z34 z35 : Value) (L : Array Bool) (ac : Act) (V : World) : Prop := ∃ (l0 l1 l2 l3 l4 l5 l6 l7 l8 l9 : Bool) (u : Value), L = #[l0, l1, l2, l3, l4, l5, l6, l7, l8, l9] ∧ ac = { tmps := #[.slice A0 n c0, vDot d, undef, .pointer (some ⟨B3, 0, none⟩), .slice none 0 0, .int .i64 0, z6, z7, z8, z9, z10, z11, z12, z13, z14, z15, z16, z17, z18, z19, selv l0 (vDot d) (z20), selv l1 (.bool false) (z21), selv l2 (.bool true) (z22), selv l3 (.bool true) (z23), selv l4 (.slice A0 n c0) (z24), selv l5 (u) (z25), selv l6 (vDot d) (z26), selv l7 (.bool b) (z27), selv l8 (.bool (!b)) (z28), selv l9 (.bool (!b)) (z29), z30, z31, z32, z33, z34, z35], defers := [] } ∧ Aside0 (BlwF3 w B3 d ds u l5 V)
def blwrInv (w : World) (A0 : Option Addr) (n c0 B3 : Nat) (d : Dot) (z6 z7 z8 z9 z10 z11 z12 z13 z14 z15 z16 z17 z18 z19 z20 z21 z22 z23 z24 z25 z26 z27 z28 z29 z30 z31 z32 z33 z34 z35 : Value) (L : Array Bool) (ac : Act) (V : World) : Prop := ∃ (l0 l1 l2 l3 l4 l5 l6 l7 l8 l9 : Bool), L = #[l0, l1, l2, l3, l4, l5, l6, l7, l8, l9] ∧ ac = { tmps := #[.slice A0 n c0, vDot d, undef, .pointer (some ⟨B3, 0, none⟩), .slice none 0 0, .int .i64 0, z6, z7, z8, z9, z10, z11, z12, z13, z14, z15, z16, z17, z18, z19, selv l0 (vDot d) (z20), selv l1 (.bool true) (z21), selv l2 (.bool false) (z22), selv l3 (.bool false) (z23), selv l4 (undef) (z24), selv l5 (undef) (z25), selv l6 (undef) (z26), selv l7 (undef) (z27), selv l8 (undef) (z28), selv l9 (.bool false) (z29), z30, z31, z32, z33, z34, z35], defers := [] } ∧ Aside0 (BlwF3 w B3 d [] undef false V)
def blw6Inv (w : World) (A0 : Option Addr) (n c0 B3 O : Nat) (ll : List Node) (d : Dot) (ys : List Dot) (z7 z8 z9 z10 z11 z12 z13 z14 z15 z16 z17 z18 z19 z20 z21 z22 z23 z24 z25 z26 z27 z28 z29 z30 z31 z32 z33 z34 z35 : Value) (L : Array Bool) (ac : Act) (V : World) : Prop := ∃ (l0 l1 l2 l3 l4 : Bool) (mp : Nat) (r : Value), L = #[l0, l1, l2, l3, l4] ∧ ac = { tmps := #[.slice A0 n c0, vDot d, undef, .pointer (some ⟨B3, 0, none⟩), .slice none 0 0, .int .i64 0, .pointer (some ⟨O, 0, none⟩), z7, z8, z9, z10, z11, z12, z13, z14, z15, z16, z17, z18, z19, z20, z21, z22, z23, z24, z25, z26, z27, z28, z29, selv l0 (.slice A0 n c0) (z30), selv l1 (vFam mp) (z31), selv l2 (vDot d) (z32), selv l3 (.func (.func 96) #[] #[.pointer (some ⟨O, 0, none⟩)]) (z33), selv l4 (r) (z34), z35], defers := [] } ∧ Aside0 (BlwF6 w B3 O mp d ll ys l1 l2 l4 V)
set_option maxHeartbeats 2000000 in
set_option maxRecDepth 100000 in
theorem walk_Below.calls (A0 : Option Addr) (c0 : Nat) (ll : List Node) (a1_0 a1_1 : Int) (r0 : List Dot) (r1 : Int) (w : World) (hr0 : Kd.C k35 w A0 ll.length ll) (hc0 : ll.length ≤ c0) (h : walk_Below.f ll a1_0 a1_1 = some (r0, r1)) :
  Calls Tryz.prog 55 #[.slice A0 ll.length c0, .agg #[.int .i64 a1_0, .int .i64 a1_1]] w fun e w' => ∃ v0_ : Value, e = .returned (.tuple #[v0_, .int .i64 r1]) ∧ Kd.R k24 24 w' w.heap.size (fun _ => True) v0_ r0 ∧ Below w.heap.size w w' := by
 obtain ⟨d, hd⟩ : ∃ d : Dot, d = ⟨a1_0, a1_1⟩ := ⟨_, rfl⟩
 unfold walk_Below.f at h
 rw [← hd] at h
 rw [show a1_0 = d.f0 by rw [hd], show a1_1 = d.f1 by rw [hd]]
 clear hd
 by_cases hl : ll.length ≤ 1000000
 rotate_left
 ·
  rw [if_neg hl] at h; cases h
 rw [if_pos hl] at h
 have HR := Aside0.mk hr0
 have HC := Aside0.mk hc0
 have HL := Aside0.mk hl
 have HH := Aside0.mk (Option.some.inj h)
 have HK : Aside0 ((w.alloc (dotC d)).heap[w.heap.size]? = some (dotC d)) := ⟨blk_new _ _⟩
 have HB : Aside0 (Below w.heap.size w (w.alloc (dotC d))) := ⟨(Gr.alloc w _).below⟩
 clear h hr0 hc0 hl
 obtain ⟨n, Hn⟩ : ∃ n, Aside0 (ll.length = n) := ⟨_, ⟨rfl⟩⟩
 obtain ⟨b, Hb⟩ : ∃ b, Aside0 (storeOk ll = b) := ⟨_, ⟨rfl⟩⟩
 have hval := store_Valid.calls A0 c0 ll b (w.alloc (dotC d)) (Kd.C_below HR.out HB.out) HC.out (by unfold store_Valid.f; rw [if_pos HL.out, Hb.out])
 rw [Hn.out] at hval ⊢
 have HV := Aside0.mk hval
 clear hval
 go_enter Tryz.func55, Tryz.ntmps55
 go_wp2_with fail
 refine HV.out.mono ?_
 rintro e w1 ⟨rfl, hb⟩
 have HK := Aside0.mk (blk_keep HK.out hb)
 have HB := Aside0.mk (below_more HB.out hb)
 clear hb HV
 obtain ⟨B3, HBe⟩ : ∃ B3, Aside0 (w.heap.size = B3) := ⟨_, ⟨rfl⟩⟩
 rw [HBe.out] at HK
 rw [show (Value.pointer (some { block := w.heap.size, off := 0 })) = .pointer (some ⟨B3, 0, none⟩) by rw [HBe.out]]
 cases b with
 | false =>
  have hrr : r0 = [] ∧ r1 = 2 := by
   have := HH.out
   rw [if_neg (by rw [Hb.out]; simp)] at this
   exact ⟨(Prod.mk.inj this).1.symm, (Prod.mk.inj this).2.symm⟩
  obtain ⟨rfl, rfl⟩ := hrr
  go_wp2
  refine bodyPost_ret (results_tmp2 rfl _ _ _) rfl ?_
  exact ⟨_, rfl, Kd.R_nil _ _ _ _ _, HB.out⟩
 | true =>
  have k0 : w1.cell? ⟨B3, 0, none⟩ = _ := (blk_cell HK.out 0).trans rfl
  have k1 : w1.cell? ⟨B3, 1, none⟩ = _ := (blk_cell HK.out 1).trans rfl
  have HS : Aside0 (Store ll) := ⟨store_of Hb.out⟩
  obtain ⟨b2, Hb2⟩ : ∃ b2, Aside0 (dotOk d = b2) := ⟨_, ⟨rfl⟩⟩
  obtain ⟨b3, Hb3⟩ : ∃ b3, Aside0 (dotRoot d = b3) := ⟨_, ⟨rfl⟩⟩
  go_wp2_with fail
  refine (dot_Valid.calls d.f0 d.f1 (dotOk d) w1 (dotValid_is d.f0 d.f1)).mono ?_
  rintro e w2 ⟨rfl, hb⟩
  have HK := Aside0.mk (blk_keep HK.out hb)
  have HB := Aside0.mk (below_more HB.out hb)
  clear hb k0 k1
  rw [Hb2.out]
  cases b2 with
  | true =>
   have HRT : Aside0 (dotRoot d = false) := ⟨by
    have := Hb2.out
    cases hr : dotRoot d with
    | false => rfl
    | true => rw [dotRoot_iff.1 hr] at this; revert this; decide⟩
   have HRR : Aside0 ((if (pathOf ll d).isSome = true then (dts (belowOf ll 0 d), 0) else ([], 9)) = (r0, r1)) := ⟨by
    have := HH.out
    rw [if_pos ⟨Hb.out, .inl Hb2.out⟩] at this
    exact this⟩
   obtain ⟨b4, Hb4⟩ : ∃ b4, Aside0 (decide (d ∈ dts (ordOf ll)) = b4) := ⟨_, ⟨rfl⟩⟩
   go_wp2_with fail
   refine AnyOrder.wp_region (by kernel_rfl) (blw3Inv w A0 n c0 B3 d (dts (ordOf ll)) b4 _ _ _ _ _ _ _ _ _ _ _ _ _ _ _ _ _ _ _ _ _ _ _ _ _ _ _ _ _ _) ⟨false, false, false, false, false, false, false, false, false, false, undef, rfl, rfl, ⟨⟨below_drew1 HB.out, blk_drew HK.out, fun h => (by cases h)⟩⟩⟩ ?step ?last
   case step =>
    rintro L ac V i ⟨l0, l1, l2, l3, l4, l5, l6, l7, l8, l9, u, rfl, rfl, HF⟩ hi K hK
    have h1 : i = 0 ∨ i = 1 ∨ i = 2 ∨ i = 3 ∨ i = 4 ∨ i = 5 ∨ i = 6 ∨ i = 7 ∨ i = 8 ∨ i = 9 := by
     have h1 := (AnyOrder.mem_ready hi).1
     clear hi hK
     change i < 10 at h1
     omega
    rcases h1 with rfl | rfl | rfl | rfl | rfl | rfl | rfl | rfl | rfl | rfl
    ·
     obtain rfl : l0 = false := (AnyOrder.mem_ready hi).2.1
     clear hi
     have k0 : V.cell? ⟨B3, 0, none⟩ = _ := (blk_cell HF.out.key 0).trans rfl
     have k1 : V.cell? ⟨B3, 1, none⟩ = _ := (blk_cell HF.out.key 1).trans rfl
     refine AnyOrder.wpOp_go rfl (by rfl) ?_
     go_wp2_with fail
     exact ⟨true, l1, l2, l3, l4, l5, l6, l7, l8, l9, u, rfl, rfl, HF⟩
    ·
     obtain rfl : l1 = false := (AnyOrder.mem_ready hi).2.1
     obtain rfl : l0 = true := AnyOrder.dep (q := 0) hi rfl rfl rfl
     clear hi
     simp only [sel_true, selv_true] at hK ⊢
     refine AnyOrder.wpOp_go rfl (by rfl) ?_
     go_wp2_with fail
     refine (dot_Root.calls d.f0 d.f1 (dotRoot d) V (dotRoot_is d.f0 d.f1)).mono ?_
     rintro e V' ⟨rfl, hb⟩
     rw [HRT.out]
     exact hK _ _ ⟨true, true, l2, l3, l4, l5, l6, l7, l8, l9, u, rfl, rfl, ⟨⟨below_more HF.out.below hb, blk_keep HF.out.key hb, fun h => RD.below' (HF.out.row h) hb⟩⟩⟩
    ·
     obtain rfl : l2 = false := (AnyOrder.mem_ready hi).2.1
     obtain rfl : l1 = true := AnyOrder.dep (q := 0) hi rfl rfl rfl
     clear hi
     simp only [sel_true, selv_true] at hK ⊢
     refine AnyOrder.wpOp_go rfl (by rfl) ?_
     go_wp2_with fail
     exact ⟨l0, true, true, l3, l4, l5, l6, l7, l8, l9, u, rfl, rfl, HF⟩
    ·
     obtain rfl : l3 = false := (AnyOrder.mem_ready hi).2.1
     obtain rfl : l2 = true := AnyOrder.dep (q := 0) hi rfl rfl rfl
     obtain rfl : l1 = true := AnyOrder.dep (q := 1) hi rfl rfl rfl
     clear hi
     simp only [sel_true, selv_true] at hK ⊢
     refine AnyOrder.wpOp_go rfl (by rfl) ?_
     go_wp2_with fail
     exact ⟨l0, true, true, true, l4, l5, l6, l7, l8, l9, u, rfl, rfl, HF⟩
    ·
     obtain rfl : l4 = false := (AnyOrder.mem_ready hi).2.1
     obtain rfl : l3 = true := AnyOrder.dep (q := 0) hi rfl rfl rfl
     clear hi
     simp only [sel_true, selv_true] at hK ⊢
     refine AnyOrder.wpOp_go rfl (by rfl) ?_
     go_wp2_with fail
     exact ⟨l0, l1, l2, true, true, l5, l6, l7, l8, l9, u, rfl, rfl, HF⟩
    ·
     obtain rfl : l5 = false := (AnyOrder.mem_ready hi).2.1
     obtain rfl : l4 = true := AnyOrder.dep (q := 0) hi rfl rfl rfl
     obtain rfl : l3 = true := AnyOrder.dep (q := 1) hi rfl rfl rfl
     clear hi
     simp only [sel_true, selv_true] at hK ⊢
     refine AnyOrder.wpOp_go rfl (by rfl) ?_
     go_wp2_with fail
     refine (reached_call A0 n c0 ll V Hn.out (by rw [← Hn.out]; exact Kd.C_below HR.out HF.out.below) (by rw [← Hn.out]; exact HC.out) HL.out HS.out Hb.out).mono ?_
     rintro e V' ⟨v, rfl, hv, hb⟩
     exact hK _ _ ⟨l0, l1, l2, true, true, true, l6, l7, l8, l9, v, rfl, rfl, ⟨⟨below_more HF.out.below hb, blk_keep HF.out.key hb, fun _ => Kd.R_lower hv HF.out.below.size⟩⟩⟩
    ·
     obtain rfl : l6 = false := (AnyOrder.mem_ready hi).2.1
     obtain rfl : l3 = true := AnyOrder.dep (q := 0) hi rfl rfl rfl
     clear hi
     simp only [sel_true, selv_true] at hK ⊢
     have k0 : V.cell? ⟨B3, 0, none⟩ = _ := (blk_cell HF.out.key 0).trans rfl
     have k1 : V.cell? ⟨B3, 1, none⟩ = _ := (blk_cell HF.out.key 1).trans rfl
     refine AnyOrder.wpOp_go rfl (by rfl) ?_
     go_wp2_with fail
     exact ⟨l0, l1, l2, true, l4, l5, true, l7, l8, l9, u, rfl, rfl, HF⟩
    ·
     obtain rfl : l7 = false := (AnyOrder.mem_ready hi).2.1
     obtain rfl : l5 = true := AnyOrder.dep (q := 0) hi rfl rfl rfl
     obtain rfl : l6 = true := AnyOrder.dep (q := 1) hi rfl rfl rfl
     obtain rfl : l3 = true := AnyOrder.dep (q := 3) hi rfl rfl rfl
     clear hi
     simp only [sel_true, selv_true] at hK ⊢
     obtain ⟨Au, cu, rfl, hcu, hCu⟩ := Kd.R_reads (HF.out.row rfl)
     obtain ⟨nu, hnu⟩ : ∃ nu, (dts (ordOf ll)).length = nu := ⟨_, rfl⟩
     have HCT := ContainsDot_call Au nu cu (dts (ordOf ll)) d V hnu (by rw [← hnu]; exact hCu) (by rw [← hnu]; unfold dts; rw [List.length_map]; exact Nat.le_trans (ord_le HS.out) HL.out)
     have HCT := Aside0.mk HCT
     rw [hnu] at HF
     clear hcu hCu
     (try rw [hnu] at hK)
     (try rw [hnu])
     clear hnu
     refine AnyOrder.wpOp_go rfl (by rfl) ?_
     go_wp2_with fail
     refine HCT.out.mono ?_
     rintro e V' ⟨rfl, hb⟩
     rw [Hb4.out]
     exact hK _ _ ⟨l0, l1, l2, true, l4, true, true, true, l8, l9, (.slice Au nu cu), rfl, rfl, ⟨⟨below_more HF.out.below hb, blk_keep HF.out.key hb, fun h => RD.below' (HF.out.row h) hb⟩⟩⟩
    ·
     obtain rfl : l8 = false := (AnyOrder.mem_ready hi).2.1
     obtain rfl : l7 = true := AnyOrder.dep (q := 0) hi rfl rfl rfl
     obtain rfl : l3 = true := AnyOrder.dep (q := 1) hi rfl rfl rfl
     clear hi
     simp only [sel_true, selv_true] at hK ⊢
     refine AnyOrder.wpOp_go rfl (by rfl) ?_
     go_wp2_with fail
     exact ⟨l0, l1, l2, true, l4, l5, l6, true, true, l9, u, rfl, rfl, HF⟩
    ·
     obtain rfl : l9 = false := (AnyOrder.mem_ready hi).2.1
     obtain rfl : l3 = true := AnyOrder.dep (q := 0) hi rfl rfl rfl
     obtain rfl : l8 = true := AnyOrder.dep (q := 1) hi rfl rfl rfl
     clear hi
     simp only [sel_true, selv_true] at hK ⊢
     refine AnyOrder.wpOp_go rfl (by rfl) ?_
     go_wp2_with fail
     exact ⟨l0, l1, l2, true, l4, l5, l6, l7, true, true, u, rfl, rfl, HF⟩
   case last =>
    rintro L ac V ⟨l0, l1, l2, l3, l4, l5, l6, l7, l8, l9, u, rfl, rfl, HF⟩ hr
    have hall := AnyOrder.all_listed rfl (by kernel_rfl) hr
    clear hr
    obtain rfl : l0 = true := hall 0 (by decide)
    obtain rfl : l1 = true := hall 1 (by decide)
    obtain rfl : l2 = true := hall 2 (by decide)
    obtain rfl : l3 = true := hall 3 (by decide)
    obtain rfl : l4 = true := hall 4 (by decide)
    obtain rfl : l5 = true := hall 5 (by decide)
    obtain rfl : l6 = true := hall 6 (by decide)
    obtain rfl : l7 = true := hall 7 (by decide)
    obtain rfl : l8 = true := hall 8 (by decide)
    obtain rfl : l9 = true := hall 9 (by decide)
    clear hall
    simp only [sel_true, selv_true]
    cases b4 with
    | false =>
     have hrr : r0 = [] ∧ r1 = 9 := by
      have := HRR.out
      rw [if_neg (fun h => by have := (reach_iff HS.out (fun e => by have := HRT.out; rw [e] at this; revert this; decide)).2 h; exact absurd (decide_eq_true this) (by rw [Hb4.out]; decide))] at this
      exact ⟨(Prod.mk.inj this).1.symm, (Prod.mk.inj this).2.symm⟩
     obtain ⟨rfl, rfl⟩ := hrr
     have HBB := Aside0.mk HF.out.below
     go_wp2
     refine bodyPost_ret (results_tmp2 rfl _ _ _) rfl ?_
     exact ⟨_, rfl, Kd.R_nil _ _ _ _ _, HBB.out⟩
    | true =>
     have hsome := (reach_iff HS.out (fun e => by have := HRT.out; rw [e] at this; revert this; decide)).1 (of_decide_eq_true Hb4.out)
     obtain ⟨q, hq⟩ := Option.isSome_iff_exists.1 hsome
     obtain ⟨U, hU, _⟩ := pathOf_some HS.out hq
     have HUP := Aside0.mk hU
     have hrr : r0 = dts (belowOf ll 0 d) ∧ r1 = 0 := by
      have := HRR.out
      rw [if_pos hsome] at this
      exact ⟨(Prod.mk.inj this).1.symm, (Prod.mk.inj this).2.symm⟩
     obtain ⟨rfl, rfl⟩ := hrr
     clear hsome hq hU
     simp only [Bool.not_true]
     go_wp2_with fail
     have HBO := Aside0.mk (below_alloc HF.out.below (outD (.slice none 0 0)))
     have HKO := Aside0.mk (blk_alloc HF.out.key (outD (.slice none 0 0)))
     have HOO := Aside0.mk (blk_new V (outD (.slice none 0 0)))
     have HOL : Aside0 (w.heap.size ≤ V.heap.size) := ⟨HF.out.below.size⟩
     clear HF
     go_wp2_with fail
     generalize V.alloc (outD (.slice none 0 0)) = V0 at *
     obtain ⟨O, HOe⟩ : ∃ O, Aside0 (V.heap.size = O) := ⟨_, ⟨rfl⟩⟩
     rw [HOe.out] at HOO HOL ⊢
     refine AnyOrder.wp_region (by kernel_rfl) (blw6Inv w A0 n c0 B3 O ll d (dts (belowOf ll 0 d)) _ _ _ _ _ _ _ _ _ _ _ _ _ _ _ _ _ _ _ _ _ _ _ _ _ _ _ _ _) ⟨false, false, false, false, false, 0, undef, rfl, rfl, ⟨⟨fun h => (by cases h), below_drew1 HBO.out, fun _ => blk_drew HKO.out, fun _ => blk_drew HOO.out, fun h => (by cases h), fun h => (by cases h)⟩⟩⟩ ?step ?last
     case step =>
      rintro L ac V i ⟨l0, l1, l2, l3, l4, mp, r, rfl, rfl, HF⟩ hi K hK
      have h1 : i = 0 ∨ i = 1 ∨ i = 2 ∨ i = 3 ∨ i = 4 := by
       have h1 := (AnyOrder.mem_ready hi).1
       clear hi hK
       change i < 5 at h1
       omega
      rcases h1 with rfl | rfl | rfl | rfl | rfl
      ·
       obtain rfl : l0 = false := (AnyOrder.mem_ready hi).2.1
       clear hi
       refine AnyOrder.wpOp_go rfl (by rfl) ?_
       go_wp2_with fail
       exact ⟨true, l1, l2, l3, l4, mp, r, rfl, rfl, HF⟩
      ·
       obtain rfl : l1 = false := (AnyOrder.mem_ready hi).2.1
       obtain rfl : l0 = true := AnyOrder.dep (q := 0) hi rfl rfl rfl
       clear hi
       simp only [sel_true, selv_true] at hK ⊢
       obtain rfl := HF.out.no4 (.inl rfl)
       (try simp only [sel_false, selv_false] at hK ⊢)
       have hmc := made_call A0 c0 ll V (Kd.C_below HR.out HF.out.below) HC.out HL.out HS.out
       rw [Hn.out] at hmc
       refine AnyOrder.wpOp_go rfl (by rfl) ?_
       go_wp2_with fail
       refine hmc.mono ?_
       rintro e V' ⟨mp2, rfl, hfm, hb⟩
       exact hK _ _ ⟨true, true, l2, l3, false, mp2, r, rfl, rfl, ⟨⟨fun h => (by cases h), below_more HF.out.below hb, fun _ => blk_keep (HF.out.key rfl) hb, fun _ => blk_keep (HF.out.out rfl) hb, fun _ _ => hfm.lower HF.out.below.size, fun h => (by cases h)⟩⟩⟩
      ·
       obtain rfl : l2 = false := (AnyOrder.mem_ready hi).2.1
       clear hi
       obtain rfl := HF.out.no4 (.inr rfl)
       (try simp only [sel_false, selv_false] at hK ⊢)
       have k0 : V.cell? ⟨B3, 0, none⟩ = _ := (blk_cell (HF.out.key rfl) 0).trans rfl
       have k1 : V.cell? ⟨B3, 1, none⟩ = _ := (blk_cell (HF.out.key rfl) 1).trans rfl
       refine AnyOrder.wpOp_go rfl (by rfl) ?_
       go_wp2_with fail
       exact ⟨l0, l1, true, l3, false, mp, r, rfl, rfl, ⟨⟨fun h => (by cases h), HF.out.below, HF.out.key, HF.out.out, HF.out.fam, HF.out.fin⟩⟩⟩
      ·
       obtain rfl : l3 = false := (AnyOrder.mem_ready hi).2.1
       clear hi
       refine AnyOrder.wpOp_go rfl (by rfl) ?_
       go_wp2_with fail
       exact ⟨l0, l1, l2, true, l4, mp, r, rfl, rfl, HF⟩
      ·
       obtain rfl : l4 = false := (AnyOrder.mem_ready hi).2.1
       obtain rfl : l1 = true := AnyOrder.dep (q := 0) hi rfl rfl rfl
       obtain rfl : l2 = true := AnyOrder.dep (q := 1) hi rfl rfl rfl
       obtain rfl : l3 = true := AnyOrder.dep (q := 2) hi rfl rfl rfl
       clear hi
       simp only [sel_true, selv_true] at hK ⊢
       refine AnyOrder.wpOp_go rfl (by rfl) ?_
       go_wp2_with fail
       refine (below_out w mp O ll d _ V HS.out HUP.out HL.out HF.out.below (HF.out.out rfl) HOL.out (HF.out.fam rfl rfl)).mono ?_
       rintro e V' ⟨r2, rfl, hb, hfin⟩
       exact hK _ _ ⟨l0, true, true, true, true, mp, r2, rfl, rfl, ⟨⟨fun _ => ⟨rfl, rfl⟩, hb, fun h => (by cases h), fun h => (by cases h), fun _ h => (by cases h), fun _ => hfin⟩⟩⟩
     case last =>
      rintro L ac V ⟨l0, l1, l2, l3, l4, mp, r, rfl, rfl, HF⟩ hr
      have hall := AnyOrder.all_listed rfl (by kernel_rfl) hr
      clear hr
      obtain rfl : l0 = true := hall 0 (by decide)
      obtain rfl : l1 = true := hall 1 (by decide)
      obtain rfl : l2 = true := hall 2 (by decide)
      obtain rfl : l3 = true := hall 3 (by decide)
      obtain rfl : l4 = true := hall 4 (by decide)
      clear hall
      simp only [sel_true, selv_true]
      obtain ⟨v, hO, hv⟩ := HF.out.fin rfl
      obtain ⟨Av, cv, rfl⟩ := RD.slice hv
      obtain ⟨nv, hnv⟩ : ∃ nv, (dts (belowOf ll 0 d)).length = nv := ⟨_, rfl⟩
      rw [hnv] at hO hv
      clear hnv
      have cO : V.cell? ⟨O, 0, none⟩ = _ := (blk_cell hO 0).trans rfl
      have HVV := Aside0.mk hv
      have HBB := Aside0.mk HF.out.below
      clear hO hv
      go_wp2
      refine bodyPost_ret (results_tmp2 rfl _ _ _) rfl ?_
      exact ⟨_, rfl, HVV.out, HBB.out⟩
  | false =>
   have k0 : w2.cell? ⟨B3, 0, none⟩ = _ := (blk_cell HK.out 0).trans rfl
   have k1 : w2.cell? ⟨B3, 1, none⟩ = _ := (blk_cell HK.out 1).trans rfl
   go_wp2_with fail
   refine (dot_Root.calls d.f0 d.f1 (dotRoot d) w2 (dotRoot_is d.f0 d.f1)).mono ?_
   rintro e w3 ⟨rfl, hb⟩
   have HK := Aside0.mk (blk_keep HK.out hb)
   have HB := Aside0.mk (below_more HB.out hb)
   clear hb k0 k1
   rw [Hb3.out]
   cases b3 with
   | true =>
    have hdr : d = ⟨0, 0⟩ := dotRoot_iff.1 Hb3.out
    have HRR : Aside0 (r0 = dts (belowOf ll 0 d) ∧ r1 = 0) := ⟨by
     have := HH.out
     rw [if_pos ⟨Hb.out, .inr Hb3.out⟩, if_pos (by rw [hdr, pathOf_path HS.out Path.root]; rfl)] at this
     exact ⟨(Prod.mk.inj this).1.symm, (Prod.mk.inj this).2.symm⟩⟩
    have HUP : Aside0 (Path ll d []) := ⟨by rw [hdr]; exact Path.root⟩
    clear hdr
    obtain ⟨rfl, rfl⟩ := HRR.out
    go_wp2_with fail
    refine AnyOrder.wp_region (by kernel_rfl) (blwrInv w A0 n c0 B3 d _ _ _ _ _ _ _ _ _ _ _ _ _ _ _ _ _ _ _ _ _ _ _ _ _ _ _ _ _ _) ⟨false, false, false, false, false, false, false, false, false, false, rfl, rfl, ⟨⟨below_drew1 HB.out, blk_drew HK.out, fun h => (by cases h)⟩⟩⟩ ?step ?last
    case step =>
     rintro L ac V i ⟨l0, l1, l2, l3, l4, l5, l6, l7, l8, l9, rfl, rfl, HF⟩ hi K hK
     have h1 : i = 0 ∨ i = 1 ∨ i = 2 ∨ i = 3 ∨ i = 4 ∨ i = 5 ∨ i = 6 ∨ i = 7 ∨ i = 8 ∨ i = 9 := by
      have h1 := (AnyOrder.mem_ready hi).1
      clear hi hK
      change i < 10 at h1
      omega
     rcases h1 with rfl | rfl | rfl | rfl | rfl | rfl | rfl | rfl | rfl | rfl
     ·
      obtain rfl : l0 = false := (AnyOrder.mem_ready hi).2.1
      clear hi
      have k0 : V.cell? ⟨B3, 0, none⟩ = _ := (blk_cell HF.out.key 0).trans rfl
      have k1 : V.cell? ⟨B3, 1, none⟩ = _ := (blk_cell HF.out.key 1).trans rfl
      refine AnyOrder.wpOp_go rfl (by rfl) ?_
      go_wp2_with fail
      exact ⟨true, l1, l2, l3, l4, l5, l6, l7, l8, l9, rfl, rfl, HF⟩
     ·
      obtain rfl : l1 = false := (AnyOrder.mem_ready hi).2.1
      obtain rfl : l0 = true := AnyOrder.dep (q := 0) hi rfl rfl rfl
      clear hi
      simp only [sel_true, selv_true] at hK ⊢
      refine AnyOrder.wpOp_go rfl (by rfl) ?_
      go_wp2_with fail
      refine (dot_Root.calls d.f0 d.f1 (dotRoot d) V (dotRoot_is d.f0 d.f1)).mono ?_
      rintro e V' ⟨rfl, hb⟩
      rw [Hb3.out]
      exact hK _ _ ⟨true, true, l2, l3, l4, l5, l6, l7, l8, l9, rfl, rfl, ⟨⟨below_more HF.out.below hb, blk_keep HF.out.key hb, fun h => (by cases h)⟩⟩⟩
     ·
      obtain rfl : l2 = false := (AnyOrder.mem_ready hi).2.1
      obtain rfl : l1 = true := AnyOrder.dep (q := 0) hi rfl rfl rfl
      clear hi
      simp only [sel_true, selv_true] at hK ⊢
      refine AnyOrder.wpOp_go rfl (by rfl) ?_
      go_wp2_with fail
      exact ⟨l0, true, true, l3, l4, l5, l6, l7, l8, l9, rfl, rfl, HF⟩
     ·
      obtain rfl : l3 = false := (AnyOrder.mem_ready hi).2.1
      obtain rfl : l2 = true := AnyOrder.dep (q := 0) hi rfl rfl rfl
      obtain rfl : l1 = true := AnyOrder.dep (q := 1) hi rfl rfl rfl
      clear hi
      simp only [sel_true, selv_true] at hK ⊢
      refine AnyOrder.wpOp_go rfl (by rfl) ?_
      go_wp2_with fail
      exact ⟨l0, true, true, true, l4, l5, l6, l7, l8, l9, rfl, rfl, HF⟩
     ·
      obtain rfl : l4 = false := (AnyOrder.mem_ready hi).2.1
      obtain rfl : l3 = true := AnyOrder.dep (q := 0) hi rfl rfl rfl
      clear hi
      simp only [sel_true, selv_true] at hK ⊢
      refine AnyOrder.wpOp_out rfl (by rfl) ?_
      exact hK _ _ ⟨l0, l1, l2, true, true, l5, l6, l7, l8, l9, rfl, rfl, HF⟩
     ·
      obtain rfl : l5 = false := (AnyOrder.mem_ready hi).2.1
      obtain rfl : l4 = true := AnyOrder.dep (q := 0) hi rfl rfl rfl
      obtain rfl : l3 = true := AnyOrder.dep (q := 1) hi rfl rfl rfl
      clear hi
      simp only [sel_true, selv_true] at hK ⊢
      refine AnyOrder.wpOp_out rfl (by rfl) ?_
      exact hK _ _ ⟨l0, l1, l2, true, true, true, l6, l7, l8, l9, rfl, rfl, HF⟩
     ·
      obtain rfl : l6 = false := (AnyOrder.mem_ready hi).2.1
      obtain rfl : l3 = true := AnyOrder.dep (q := 0) hi rfl rfl rfl
      clear hi
      simp only [sel_true, selv_true] at hK ⊢
      refine AnyOrder.wpOp_out rfl (by rfl) ?_
      exact hK _ _ ⟨l0, l1, l2, true, l4, l5, true, l7, l8, l9, rfl, rfl, HF⟩
     ·
      obtain rfl : l7 = false := (AnyOrder.mem_ready hi).2.1
      obtain rfl : l5 = true := AnyOrder.dep (q := 0) hi rfl rfl rfl
      obtain rfl : l6 = true := AnyOrder.dep (q := 1) hi rfl rfl rfl
      obtain rfl : l3 = true := AnyOrder.dep (q := 3) hi rfl rfl rfl
      clear hi
      simp only [sel_true, selv_true] at hK ⊢
      refine AnyOrder.wpOp_out rfl (by rfl) ?_
      exact hK _ _ ⟨l0, l1, l2, true, l4, true, true, true, l8, l9, rfl, rfl, HF⟩
     ·
      obtain rfl : l8 = false := (AnyOrder.mem_ready hi).2.1
      obtain rfl : l7 = true := AnyOrder.dep (q := 0) hi rfl rfl rfl
      obtain rfl : l3 = true := AnyOrder.dep (q := 1) hi rfl rfl rfl
      clear hi
      simp only [sel_true, selv_true] at hK ⊢
      refine AnyOrder.wpOp_out rfl (by rfl) ?_
      exact hK _ _ ⟨l0, l1, l2, true, l4, l5, l6, true, true, l9, rfl, rfl, HF⟩
     ·
      obtain rfl : l9 = false := (AnyOrder.mem_ready hi).2.1
      obtain rfl : l3 = true := AnyOrder.dep (q := 0) hi rfl rfl rfl
      obtain rfl : l8 = true := AnyOrder.dep (q := 1) hi rfl rfl rfl
      clear hi
      simp only [sel_true, selv_true] at hK ⊢
      refine AnyOrder.wpOp_go rfl (by rfl) ?_
      go_wp2_with fail
      exact ⟨l0, l1, l2, true, l4, l5, l6, l7, true, true, rfl, rfl, HF⟩
    case last =>
     rintro L ac V ⟨l0, l1, l2, l3, l4, l5, l6, l7, l8, l9, rfl, rfl, HF⟩ hr
     have hall := AnyOrder.all_listed rfl (by kernel_rfl) hr
     clear hr
     obtain rfl : l0 = true := hall 0 (by decide)
     obtain rfl : l1 = true := hall 1 (by decide)
     obtain rfl : l2 = true := hall 2 (by decide)
     obtain rfl : l3 = true := hall 3 (by decide)
     obtain rfl : l4 = true := hall 4 (by decide)
     obtain rfl : l5 = true := hall 5 (by decide)
     obtain rfl : l6 = true := hall 6 (by decide)
     obtain rfl : l7 = true := hall 7 (by decide)
     obtain rfl : l8 = true := hall 8 (by decide)
     obtain rfl : l9 = true := hall 9 (by decide)
     clear hall
     simp only [sel_true, selv_true]
     go_wp2_with fail
     have HBO := Aside0.mk (below_alloc HF.out.below (outD (.slice none 0 0)))
     have HKO := Aside0.mk (blk_alloc HF.out.key (outD (.slice none 0 0)))
     have HOO := Aside0.mk (blk_new V (outD (.slice none 0 0)))
     have HOL : Aside0 (w.heap.size ≤ V.heap.size) := ⟨HF.out.below.size⟩
     clear HF
     go_wp2_with fail
     generalize V.alloc (outD (.slice none 0 0)) = V0 at *
     obtain ⟨O, HOe⟩ : ∃ O, Aside0 (V.heap.size = O) := ⟨_, ⟨rfl⟩⟩
     rw [HOe.out] at HOO HOL ⊢
     refine AnyOrder.wp_region (by kernel_rfl) (blw6Inv w A0 n c0 B3 O ll d (dts (belowOf ll 0 d)) _ _ _ _ _ _ _ _ _ _ _ _ _ _ _ _ _ _ _ _ _ _ _ _ _ _ _ _ _) ⟨false, false, false, false, false, 0, undef, rfl, rfl, ⟨⟨fun h => (by cases h), below_drew1 HBO.out, fun _ => blk_drew HKO.out, fun _ => blk_drew HOO.out, fun h => (by cases h), fun h => (by cases h)⟩⟩⟩ ?step ?last
     case step =>
      rintro L ac V i ⟨l0, l1, l2, l3, l4, mp, r, rfl, rfl, HF⟩ hi K hK
      have h1 : i = 0 ∨ i = 1 ∨ i = 2 ∨ i = 3 ∨ i = 4 := by
       have h1 := (AnyOrder.mem_ready hi).1
       clear hi hK
       change i < 5 at h1
       omega
      rcases h1 with rfl | rfl | rfl | rfl | rfl
      ·
       obtain rfl : l0 = false := (AnyOrder.mem_ready hi).2.1
       clear hi
       refine AnyOrder.wpOp_go rfl (by rfl) ?_
       go_wp2_with fail
       exact ⟨true, l1, l2, l3, l4, mp, r, rfl, rfl, HF⟩
      ·
       obtain rfl : l1 = false := (AnyOrder.mem_ready hi).2.1
       obtain rfl : l0 = true := AnyOrder.dep (q := 0) hi rfl rfl rfl
       clear hi
       simp only [sel_true, selv_true] at hK ⊢
       obtain rfl := HF.out.no4 (.inl rfl)
       (try simp only [sel_false, selv_false] at hK ⊢)
       have hmc := made_call A0 c0 ll V (Kd.C_below HR.out HF.out.below) HC.out HL.out HS.out
       rw [Hn.out] at hmc
       refine AnyOrder.wpOp_go rfl (by rfl) ?_
       go_wp2_with fail
       refine hmc.mono ?_
       rintro e V' ⟨mp2, rfl, hfm, hb⟩
       exact hK _ _ ⟨true, true, l2, l3, false, mp2, r, rfl, rfl, ⟨⟨fun h => (by cases h), below_more HF.out.below hb, fun _ => blk_keep (HF.out.key rfl) hb, fun _ => blk_keep (HF.out.out rfl) hb, fun _ _ => hfm.lower HF.out.below.size, fun h => (by cases h)⟩⟩⟩
      ·
       obtain rfl : l2 = false := (AnyOrder.mem_ready hi).2.1
       clear hi
       obtain rfl := HF.out.no4 (.inr rfl)
       (try simp only [sel_false, selv_false] at hK ⊢)
       have k0 : V.cell? ⟨B3, 0, none⟩ = _ := (blk_cell (HF.out.key rfl) 0).trans rfl
       have k1 : V.cell? ⟨B3, 1, none⟩ = _ := (blk_cell (HF.out.key rfl) 1).trans rfl
       refine AnyOrder.wpOp_go rfl (by rfl) ?_
       go_wp2_with fail
       exact ⟨l0, l1, true, l3, false, mp, r, rfl, rfl, ⟨⟨fun h => (by cases h), HF.out.below, HF.out.key, HF.out.out, HF.out.fam, HF.out.fin⟩⟩⟩
      ·
       obtain rfl : l3 = false := (AnyOrder.mem_ready hi).2.1
       clear hi
       refine AnyOrder.wpOp_go rfl (by rfl) ?_
       go_wp2_with fail
       exact ⟨l0, l1, l2, true, l4, mp, r, rfl, rfl, HF⟩
      ·
       obtain rfl : l4 = false := (AnyOrder.mem_ready hi).2.1
       obtain rfl : l1 = true := AnyOrder.dep (q := 0) hi rfl rfl rfl
       obtain rfl : l2 = true := AnyOrder.dep (q := 1) hi rfl rfl rfl
       obtain rfl : l3 = true := AnyOrder.dep (q := 2) hi rfl rfl rfl
       clear hi
       simp only [sel_true, selv_true] at hK ⊢
       refine AnyOrder.wpOp_go rfl (by rfl) ?_
       go_wp2_with fail
       refine (below_out w mp O ll d _ V HS.out HUP.out HL.out HF.out.below (HF.out.out rfl) HOL.out (HF.out.fam rfl rfl)).mono ?_
       rintro e V' ⟨r2, rfl, hb, hfin⟩
       exact hK _ _ ⟨l0, true, true, true, true, mp, r2, rfl, rfl, ⟨⟨fun _ => ⟨rfl, rfl⟩, hb, fun h => (by cases h), fun h => (by cases h), fun _ h => (by cases h), fun _ => hfin⟩⟩⟩
     case last =>
      rintro L ac V ⟨l0, l1, l2, l3, l4, mp, r, rfl, rfl, HF⟩ hr
      have hall := AnyOrder.all_listed rfl (by kernel_rfl) hr
      clear hr
      obtain rfl : l0 = true := hall 0 (by decide)
      obtain rfl : l1 = true := hall 1 (by decide)
      obtain rfl : l2 = true := hall 2 (by decide)
      obtain rfl : l3 = true := hall 3 (by decide)
      obtain rfl : l4 = true := hall 4 (by decide)
      clear hall
      simp only [sel_true, selv_true]
      obtain ⟨v, hO, hv⟩ := HF.out.fin rfl
      obtain ⟨Av, cv, rfl⟩ := RD.slice hv
      obtain ⟨nv, hnv⟩ : ∃ nv, (dts (belowOf ll 0 d)).length = nv := ⟨_, rfl⟩
      rw [hnv] at hO hv
      clear hnv
      have cO : V.cell? ⟨O, 0, none⟩ = _ := (blk_cell hO 0).trans rfl
      have HVV := Aside0.mk hv
      have HBB := Aside0.mk HF.out.below
      clear hO hv
      go_wp2
      refine bodyPost_ret (results_tmp2 rfl _ _ _) rfl ?_
      exact ⟨_, rfl, HVV.out, HBB.out⟩
   | false =>
    have hrr : r0 = [] ∧ r1 = 2 := by
     have := HH.out
     rw [if_neg (by rw [Hb2.out, Hb3.out]; simp)] at this
     exact ⟨(Prod.mk.inj this).1.symm, (Prod.mk.inj this).2.symm⟩
    obtain ⟨rfl, rfl⟩ := hrr
    go_wp2
    refine bodyPost_ret (results_tmp2 rfl _ _ _) rfl ?_
    exact ⟨_, rfl, Kd.R_nil _ _ _ _ _, HB.out⟩
end Go.Proofs.YtjlpaagnajmogaaGreat.PWalk
end
section
namespace Go.Proofs.YtjlpaagnajmogaaGreat.PWalk
open Go.RowKit Go.Proofs.YtjlpaagnajmogaaGreatW.PrintWords Go.Proofs.YtjlpaagnajmogaaGreatW.PrintLast Go.Proofs.YtjlpaagnajmogaaGreatW.PrintMore
set_option linter.unusedVariables false
set_option linter.unusedSimpArgs false
open Go.Shelf
attribute [local go_sem] Oper.semAt_some
set_option maxHeartbeats 1000000 in
set_option maxRecDepth 100000 in
theorem setD_call (A0 : Option Addr) (n c0 : Nat) (xs : List Dot) (w : World) (hn : xs.length = n) (hr0 : Kd.C k24 w A0 n xs) (hl : n ≤ 1000000) (hnd : xs.Nodup) :
  Calls Tryz.prog 122 #[.slice A0 n c0] w fun e w' => ∃ v ys, e = .returned v ∧ RD w' w.heap.size v ys ∧ incB ys = true ∧ ys.Perm xs ∧ Below w.heap.size w w' := by
 have HCL := CloneDot.calls A0 c0 xs w (by rw [hn]; exact hr0) (by rw [hn]; exact hl)
 rw [hn] at HCL
 have HCL := Aside0.mk HCL
 have HND := Aside0.mk hnd
 have Hn := Aside0.mk hn
 have HL := Aside0.mk hl
 clear hr0 hn hnd hl
 go_enter Tryz.func122, Tryz.ntmps122
 go_wp2_with fail
 refine HCL.out.mono ?_
 rintro e w1 ⟨v, rfl, hv, hb⟩
 obtain ⟨A1, c1, rfl⟩ := RD.slice hv
 rw [Hn.out] at hv ⊢
 have HSO := Aside0.mk (sortD_call w.heap.size n (.slice A1 n c1) xs w1 hv (by have h1 := Hn.out; have h2 := HL.out; omega))
 have HV := Aside0.mk hv
 have HB := Aside0.mk hb
 clear hv hb HCL
 go_wp2_with fail
 refine HSO.out.mono ?_
 rintro e w2 ⟨rfl, ys, hys, hperm, hpw, ht⟩
 have hb2 := ht.on HB.out (fun i e => (RD.block HV.out e).1)
 have hinc := adjacent_inc (hperm.nodup_iff.2 HND.out) hpw
 have hyl : ys.length = n := hperm.length_eq.trans Hn.out
 have HC : Kd.C k24 w2 A1 n ys := by
  obtain ⟨A', c', e, _, hC⟩ := Kd.R_reads hys
  cases e
  rw [hyl] at hC
  exact hC
 have HCO := Aside0.mk (compactD_call A1 n c1 ys w2 hyl HC HL.out hinc)
 have HYS := Aside0.mk hys
 have HINC := Aside0.mk hinc
 have HP := Aside0.mk hperm
 have HB2 := Aside0.mk hb2
 clear hys hperm hpw ht hb2 hinc hyl HC HSO
 go_wp2_with fail
 refine HCO.out.mono ?_
 rintro e w3 ⟨rfl, hb⟩
 have HB3 := Aside0.mk hb
 clear hb
 go_wp2
 go_ret
 exact ⟨_, ys, rfl, RD.below' HYS.out HB3.out, HINC.out, HP.out, below_more HB2.out HB3.out⟩
set_option maxHeartbeats 1000000 in
set_option maxRecDepth 100000 in
theorem minus1_call (base S : Nat) (u : Value) (ks : List Dot) (d : Dot) (w : World) (hS : w.heap[S]? = some (outD u)) (hu : RD w base u ks) (hl : ks.length ≤ 1000000) (hi : incB ks = true) :
  Calls Tryz.prog 123 #[vDot d, .pointer (some ⟨S, 0, none⟩)] w fun e w' => e = .returned (.bool (!hasK ks d)) ∧ Below w.heap.size w w' := by
 obtain ⟨A, c, rfl⟩ := RD.slice hu
 obtain ⟨n, hn⟩ : ∃ n, ks.length = n := ⟨_, rfl⟩
 rw [hn] at hS hu
 have hgr := (Gr.alloc w (dotC d)).below
 have cS : (w.alloc (dotC d)).cell? ⟨S, 0, none⟩ = _ := (blk_cell (blk_alloc hS _) 0).trans rfl
 have hK : (w.alloc (dotC d)).heap[w.heap.size]? = some (dotC d) := blk_new _ _
 have k0 : (w.alloc (dotC d)).cell? ⟨w.heap.size, 0, none⟩ = _ := (blk_cell hK 0).trans rfl
 have k1 : (w.alloc (dotC d)).cell? ⟨w.heap.size, 1, none⟩ = _ := (blk_cell hK 1).trans rfl
 have HBS := Aside0.mk (bsearchD_call ks A n c d (w.alloc (dotC d)) hi (EntsD.of (RD.below' hu hgr) hl))
 have HB := Aside0.mk hgr
 clear hS hu hl hi hgr hK hn
 go_enter Tryz.func123, Tryz.ntmps123
 go_wp2_with fail
 refine HBS.out.mono ?_
 rintro e w1 ⟨rfl, hb⟩
 have HB := Aside0.mk (below_more HB.out hb)
 clear hb k0 k1 cS
 go_wp2
 go_ret
 exact ⟨rfl, HB.out⟩
abbrev mfn (S : Nat) : Value := .func (.func 123) #[] #[.pointer (some ⟨S, 0, none⟩)]
abbrev boxCh (S : Nat) : Obj := .cells #[mfn S] 140 (0, 0)
def stay (ks xs : List Dot) (k : Nat) : List Dot := (xs.take k).filter fun d => !hasK ks d
theorem stay_succ {ks xs : List Dot} {k : Nat} {x : Dot} (h : xs[k]? = some x) : stay ks xs (k + 1) = if hasK ks x = true then stay ks xs k else stay ks xs k ++ [x] := by
 unfold stay
 rw [List.take_succ_eq_append_getElem (List.getElem?_eq_some_iff.1 h).1, (List.getElem?_eq_some_iff.1 h).2, List.filter_append]
 by_cases hk : hasK ks x = true
 ·
  rw [if_pos hk]; simp [hk]
 ·
  rw [if_neg hk]; simp [hk]
theorem stay_le (ks xs : List Dot) (k : Nat) : (stay ks xs k).length ≤ xs.length := Nat.le_trans (List.length_filter_le _ _) (List.length_take_le' _ _)
set_option maxHeartbeats 2000000 in
set_option maxRecDepth 100000 in
theorem ofD_call (base S : Nat) (u : Value) (ks : List Dot) (A0 : Option Addr) (n c0 : Nat) (xs : List Dot) (w : World) (hS : w.heap[S]? = some (outD u)) (hu : RD w base u ks) (hkl : ks.length ≤ 1000000) (hi : incB ks = true) (hn : xs.length = n) (hr0 : Kd.C k24 w A0 n xs) (hl : n ≤ 1000000) (hnd : xs.Nodup) :
  Calls Tryz.prog 125 #[.agg #[mfn S], .slice A0 n c0] w fun e w' => ∃ v ys, e = .returned v ∧ RD w' w.heap.size v ys ∧ incB ys = true ∧ ys.Perm (xs.filter fun d => !hasK ks d) ∧ Below w.heap.size w w' := by
 have HS := Aside0.mk hS
 have HU := Aside0.mk hu
 have HKL := Aside0.mk hkl
 have HI := Aside0.mk hi
 have Hn := Aside0.mk hn
 have HR := Aside0.mk hr0
 have HND := Aside0.mk hnd
 have HB0 := Aside0.mk (Gr.alloc w (boxCh S)).below
 have HC0 := Aside0.mk (blk_new w (boxCh S))
 clear hS hu hkl hi hn hr0 hnd
 go_enter Tryz.func125, Tryz.ntmps125
 go_wp2
 generalize w.alloc (boxCh S) = W1 at *
 obtain ⟨B, HBe⟩ : ∃ B, Aside0 (w.heap.size = B) := ⟨_, ⟨rfl⟩⟩
 rw [HBe.out] at HC0
 rw [show (Value.pointer (some { block := w.heap.size, off := 0 })) = .pointer (some ⟨B, 0, none⟩) by rw [HBe.out]]
 go_loopw [5, 10] (fun o i wr => ∃ (k : Nat) (A' : Option Addr) (m c' : Nat), k ≤ n ∧ o = .slice A' m c' ∧ i = .int .i64 k ∧ Aside0 ((stay ks xs k).length = m) ∧ Aside0 (RD wr w.heap.size (.slice A' m c') (stay ks xs k)) ∧ Aside0 (wr.heap[B]? = some (boxCh S)) ∧ Aside0 (Below w.heap.size w wr)) (fun o i _ => n - (intOf i).toNat)
 case atStart => exact ⟨0, none, 0, 0, Nat.zero_le _, rfl, rfl, ⟨rfl⟩, ⟨Kd.R_nil _ _ _ _ _⟩, HC0, HB0⟩
 case round =>
  obtain ⟨k, A', m, c', hk, rfl, rfl, Hm, HO, HC, HB⟩ := hrel
  by_cases hlt : k < n
  ·
   have hltb : decide ((k : Int) < (n : Int)) = true := decide_eq_true (by omega)
   obtain ⟨x, hx⟩ : ∃ x, Aside0 (xs[k]? = some x) := ⟨_, ⟨List.getElem?_eq_getElem (by have := Hn.out; omega)⟩⟩
   obtain ⟨ad, e, g0, g1⟩ := dot_at HR.out HB.out k x hx.out
   subst e
   have hcb : (wr.alloc (dotC x)).heap[B]? = some (boxCh S) := blk_alloc HC.out _
   have cB : (wr.alloc (dotC x)).cell? ⟨B, 0, none⟩ = _ := (blk_cell hcb 0).trans rfl
   have hN : (wr.alloc (dotC x)).heap[wr.heap.size]? = some (dotC x) := blk_new _ _
   have n0 : (wr.alloc (dotC x)).cell? ⟨wr.heap.size, 0, none⟩ = _ := (blk_cell hN 0).trans rfl
   have n1 : (wr.alloc (dotC x)).cell? ⟨wr.heap.size, 1, none⟩ = _ := (blk_cell hN 1).trans rfl
   have hB2 := below_alloc HB.out (dotC x)
   have HMC := Aside0.mk (minus1_call base S u ks x (wr.alloc (dotC x)) (blk_keep HS.out hB2) (RD.below' HU.out hB2) HKL.out HI.out)
   have HCB := Aside0.mk hcb
   have HN := Aside0.mk hN
   have HB2 := Aside0.mk hB2
   have HO2 := Aside0.mk (RD.below' HO.out (Gr.alloc wr (dotC x)).below)
   clear hcb hN hB2
   go_wp2_with fail
   refine HMC.out.mono ?_
   rintro e w2 ⟨rfl, hb⟩
   have HCB := Aside0.mk (blk_keep HCB.out hb)
   have hN := blk_keep HN.out hb
   have m0 : w2.cell? ⟨wr.heap.size, 0, none⟩ = _ := (blk_cell hN 0).trans rfl
   have m1 : w2.cell? ⟨wr.heap.size, 1, none⟩ = _ := (blk_cell hN 1).trans rfl
   have HB3 := Aside0.mk (below_more HB2.out hb)
   have HO3 := Aside0.mk (RD.below' HO2.out hb)
   clear hb hN n0 n1 cB g0 g1
   obtain ⟨b, Hb⟩ : ∃ b, Aside0 (hasK ks x = b) := ⟨_, ⟨rfl⟩⟩
   rw [Hb.out]
   cases b with
   | true =>
    have HST : Aside0 (stay ks xs (k + 1) = stay ks xs k) := ⟨by rw [stay_succ hx.out, if_pos Hb.out]⟩
    go_wp2
    go_roundw
    case rel => exact ⟨k + 1, A', m, c', by omega, rfl, by go_num, ⟨by rw [HST.out]; exact Hm.out⟩, ⟨by rw [HST.out]; exact HO3.out⟩, HCB, HB3⟩
    case measure => simp [intOf] <;> omega
   | false =>
    have HST : Aside0 (stay ks xs (k + 1) = stay ks xs k ++ [x]) := ⟨by rw [stay_succ hx.out, if_neg (by rw [Hb.out]; decide)]⟩
    obtain ⟨u2, w3, hrun, hrd, hgr, hat⟩ := run_append_dot w.heap.size 41 (.slice A' m c') (stay ks xs k) x w2.heap.size 1 (w2.alloc (dotC x)) (RD.below' HO3.out (Gr.alloc _ _).below) (blk_new _ _) (Nat.le_trans HB3.out.size (by rw [World.size_alloc]; omega)) (by have h1 := stay_le ks xs k; have h2 := Hn.out; omega)
    obtain ⟨A2, c2, rfl⟩ := RD.slice hrd
    obtain ⟨m2, Hm2⟩ : ∃ m2, Aside0 ((stay ks xs k ++ [x]).length = m2) := ⟨_, ⟨rfl⟩⟩
    rw [Hm2.out] at hrun hrd
    have hb3 : Below w.heap.size w w3 := (below_alloc HB3.out (dotC x)).grown hgr (below_alloc HB3.out (dotC x)).size (fun q e => (RD.block (RD.below' HO3.out (Gr.alloc w2 (dotC x)).below) e.symm.symm).1)
    have hcb3 : w3.heap[B]? = some (boxCh S) := (hgr.block B (blk_lt (blk_alloc HCB.out _)) (fun e => by
     obtain ⟨_, cur, hc⟩ := RD.block (RD.below' HO3.out (Gr.alloc w2 (dotC x)).below) e.symm
     have h1 := blk_alloc HCB.out (dotC x)
     rw [h1] at hc
     exact absurd (Obj.cells.inj (Option.some.inj hc)).2.1 (by decide))).trans (blk_alloc HCB.out _)
    have HRUN := Aside0.mk hrun
    have HRD := Aside0.mk hrd
    have HBW := Aside0.mk hb3
    have HCW := Aside0.mk hcb3
    clear hrun hrd hgr hat hb3 hcb3
    go_wp2_with (at_builtin; refine wpList_append_eq rfl (.tmp 18) (.tmp 20) 41 rfl rfl rfl HRUN.out ?_)
    go_roundw
    case rel => exact ⟨k + 1, A2, m2, c2, by omega, rfl, by go_num, ⟨by rw [HST.out]; exact Hm2.out⟩, ⟨by rw [HST.out]; exact HRD.out⟩, HCW, HBW⟩
    case measure => simp [intOf] <;> omega
  ·
   obtain rfl : k = n := by omega
   have hltb : decide ((k : Int) < (k : Int)) = false := decide_eq_false (by omega)
   have hall : stay ks xs k = xs.filter fun d => !hasK ks d := by unfold stay; rw [List.take_of_length_le (Nat.le_of_eq Hn.out)]
   have hnd2 : (stay ks xs k).Nodup := by rw [hall]; exact HND.out.filter _
   have hC : Kd.C k24 wr A' m (stay ks xs k) := by
    obtain ⟨A3, c3, e, _, hC⟩ := Kd.R_reads HO.out
    cases e
    exact hC
   have HSC := setD_call A' m c' (stay ks xs k) wr Hm.out hC (by have h1 := stay_le ks xs k; have h2 := Hn.out; have h3 := Hm.out; omega) hnd2
   rw [hall] at HSC
   have HSC := Aside0.mk HSC
   clear hall hnd2 hC
   go_wp2_with fail
   refine HSC.out.mono ?_
   rintro e w2 ⟨v, ys, rfl, h1, h2, h3, h4⟩
   obtain ⟨A4, c4, rfl⟩ := RD.slice h1
   have HE := Aside0.mk (And.intro (Kd.R_lower h1 HB.out.size) (And.intro h2 (And.intro h3 (below_more HB.out h4))))
   clear h1 h2 h3 h4
   go_wp2
   go_ret
   exact ⟨_, ys, rfl, HE.out.1, HE.out.2.1, HE.out.2.2.1, HE.out.2.2.2⟩
theorem incB_pw : ∀ {ys : List Dot}, incB ys = true → ys.Pairwise (fun a b => dotLt a b = true)
 | [], _ => List.Pairwise.nil
 | y :: r, h => List.pairwise_cons.2 ⟨(incB_tail h).2, incB_pw (incB_tail h).1⟩
theorem pw_unique : ∀ {a b : List Dot}, a.Perm b → a.Pairwise (fun x y => dotLt x y = true) → b.Pairwise (fun x y => dotLt x y = true) → a = b
 | [], b, hp, _, _ => by rw [List.nil_perm.1 hp]
 | x :: a, [], hp, _, _ => absurd (List.perm_nil.1 hp) (by simp)
 | x :: a, y :: b, hp, ha, hb => by
  obtain ⟨ha1, ha2⟩ := List.pairwise_cons.1 ha
  obtain ⟨hb1, hb2⟩ := List.pairwise_cons.1 hb
  have hxy : x = y := by
   refine Classical.byContradiction fun hne => ?_
   have hx : x ∈ b := (List.mem_cons.1 (hp.mem_iff.1 List.mem_cons_self)).resolve_left hne
   have hy : y ∈ a := (List.mem_cons.1 (hp.mem_iff.2 List.mem_cons_self)).resolve_left (fun e => hne e.symm)
   have := dotLt_trans (ha1 y hy) (hb1 x hx)
   rw [dotLt_irrefl] at this; cases this
  subst hxy
  rw [pw_unique (List.Perm.cons_inv hp) ha2 hb2]
set_option maxHeartbeats 1000000 in
set_option maxRecDepth 100000 in
theorem minus_call (A0 : Option Addr) (n c0 : Nat) (xs : List Dot) (A1 : Option Addr) (m c1 : Nat) (bs : List Dot) (w : World) (hn : xs.length = n) (hr0 : Kd.C k24 w A0 n xs) (hl : n ≤ 1000000) (hi : incB xs = true) (hm : bs.length = m) (hr1 : Kd.C k24 w A1 m bs) (hl1 : m ≤ 1000000) (hnd : bs.Nodup) :
  Calls Tryz.prog 92 #[.slice A0 n c0, .slice A1 m c1] w fun e w' => ∃ v, e = .returned v ∧ RD w' w.heap.size v (xs.filter fun d => decide (d ∉ bs)) ∧ Below w.heap.size w w' := by
 have HSC := Aside0.mk (setD_call A1 m c1 bs w hm hr1 hl1 hnd)
 have HR := Aside0.mk hr0
 have Hn := Aside0.mk hn
 have HL := Aside0.mk hl
 have HI := Aside0.mk hi
 have HM := Aside0.mk (show bs.length ≤ 1000000 by omega)
 clear hr0 hn hl hi hm hr1 hl1 hnd
 go_enter Tryz.func92, Tryz.ntmps92
 go_wp2_with fail
 refine HSC.out.mono ?_
 rintro e w1 ⟨v, ks, rfl, hv, hinc, hperm, hb⟩
 have hkl : ks.length ≤ 1000000 := by rw [hperm.length_eq]; exact HM.out
 obtain ⟨A2, c2, rfl⟩ := RD.slice hv
 obtain ⟨q, hq⟩ : ∃ q, ks.length = q := ⟨_, rfl⟩
 rw [hq] at hv ⊢
 have hg1 := (Gr.alloc w1 (outD (.slice A2 q c2))).below
 have hb2 := below_more hb hg1
 have HOF := ofD_call w.heap.size w1.heap.size (.slice A2 q c2) ks A0 n c0 xs (w1.alloc (outD (.slice A2 q c2))) (blk_new _ _) (RD.below' hv hg1) hkl hinc Hn.out (Kd.C_below HR.out hb2) HL.out (incB_nodup HI.out)
 have HOF := Aside0.mk HOF
 have HB := Aside0.mk hb2
 have HP := Aside0.mk hperm
 have HINC := Aside0.mk hinc
 clear hv hinc hperm hb hkl hq hg1 hb2 HSC
 go_wp2_with fail
 refine HOF.out.mono ?_
 rintro e w2 ⟨v3, ys, rfl, h1, h2, h3, h4⟩
 obtain ⟨A3, c3, rfl⟩ := RD.slice h1
 have hys : ys = xs.filter fun d => decide (d ∉ bs) := by
  have he : (xs.filter fun d => !hasK ks d) = xs.filter fun d => decide (d ∉ bs) := by
   refine List.filter_congr fun d _ => ?_
   have hk := hasK_iff HINC.out d
   rw [HP.out.mem_iff] at hk
   cases hd : hasK ks d with
   | true => simp [hk.1 hd]
   | false =>
    have : ¬ d ∈ bs := fun h => by have := hk.2 h; rw [hd] at this; cases this
    simp [this]
  rw [he] at h3
  exact pw_unique h3 (incB_pw h2) ((incB_pw HI.out).filter _)
 subst hys
 obtain ⟨nv, hnv⟩ : ∃ nv, (xs.filter fun d => decide (d ∉ bs)).length = nv := ⟨_, rfl⟩
 rw [hnv] at h1 ⊢
 clear hnv
 have HE := Aside0.mk (And.intro (Kd.R_lower h1 HB.out.size) (below_more HB.out h4))
 clear h1 h2 h3 h4
 go_wp2
 go_ret
 exact ⟨_, rfl, HE.out.1, HE.out.2⟩
theorem lost_eq {l : List Node} (hs : Store l) : ((l.map (·.f0)).filter fun d => decide (d ∉ dts (ordOf l))) = lostOf l := by
 unfold lostOf
 rw [List.filter_map]
 congr 1
 refine List.filter_congr fun x hx => ?_
 have h := reach_iff hs (hs.not_root hx)
 show decide (x.f0 ∉ dts (ordOf l)) = _
 cases hp : pathOf l x.f0 with
 | none =>
  have : ¬ x.f0 ∈ dts (ordOf l) := fun hm => by have := h.1 hm; rw [hp] at this; cases this
  simp [this]
 | some q =>
  have : x.f0 ∈ dts (ordOf l) := h.2 (by rw [hp]; rfl)
  simp [this]
theorem reach_nodup {l : List Node} (hs : Store l) : (dts (ordOf l)).Nodup := by
 have h := ord_nodup hs
 have e : dts (ordOf l) = ((ordOf l).map (·.2)).map (·.f0) := by unfold dts; rw [List.map_map]; rfl
 rw [e]
 refine List.Pairwise.map (R := fun a b => a ≠ b ∧ a ∈ (ordOf l).map (·.2) ∧ b ∈ (ordOf l).map (·.2)) _ (fun a b ⟨hab, ha, hb⟩ he => ?_) (List.Pairwise.imp_of_mem (fun ha hb h => ⟨h, ha, hb⟩) h)
 obtain ⟨p, hp, rfl⟩ := List.mem_map.1 ha
 obtain ⟨q, hq, rfl⟩ := List.mem_map.1 hb
 exact hab (inc_eq hs.inc (ord_mem hs hp) (ord_mem hs hq) he)
def dotsN (l : List Node) (k : Nat) : List Dot := (l.take k).map (·.f0)
theorem dotsN_succ {l : List Node} {k : Nat} {x : Node} (h : l[k]? = some x) : dotsN l (k + 1) = dotsN l k ++ [x.f0] := by
 unfold dotsN
 rw [List.take_succ_eq_append_getElem (List.getElem?_eq_some_iff.1 h).1, (List.getElem?_eq_some_iff.1 h).2, List.map_append]; rfl
set_option maxHeartbeats 2000000 in
set_option maxRecDepth 100000 in
theorem walk_Lost.calls (A0 : Option Addr) (c0 : Nat) (ll : List Node) (r0 : List Dot) (r1 : Int) (w : World) (hr0 : Kd.C k35 w A0 ll.length ll) (hc0 : ll.length ≤ c0) (h : walk_Lost.f ll = some (r0, r1)) :
  Calls Tryz.prog 51 #[.slice A0 ll.length c0] w fun e w' => ∃ v0_ : Value, e = .returned (.tuple #[v0_, .int .i64 r1]) ∧ Kd.R k24 24 w' w.heap.size (fun _ => True) v0_ r0 ∧ Below w.heap.size w w' := by
 unfold walk_Lost.f at h
 by_cases hl : ll.length ≤ 1000000
 rotate_left
 ·
  rw [if_neg hl] at h; cases h
 rw [if_pos hl] at h
 have HR := Aside0.mk hr0
 have HC := Aside0.mk hc0
 have HL := Aside0.mk hl
 have HH := Aside0.mk (Option.some.inj h)
 clear h hr0 hc0 hl
 obtain ⟨n, Hn⟩ : ∃ n, Aside0 (ll.length = n) := ⟨_, ⟨rfl⟩⟩
 obtain ⟨b, Hb⟩ : ∃ b, Aside0 (storeOk ll = b) := ⟨_, ⟨rfl⟩⟩
 have hval := store_Valid.calls A0 c0 ll b w HR.out HC.out (by unfold store_Valid.f; rw [if_pos HL.out, Hb.out])
 rw [Hn.out] at hval ⊢
 have HV := Aside0.mk hval
 clear hval
 go_enter Tryz.func51, Tryz.ntmps51
 go_wp2_with fail
 refine HV.out.mono ?_
 rintro e w1 ⟨rfl, hb⟩
 have HB := Aside0.mk hb
 clear hb HV
 cases b with
 | false =>
  have hrr : r0 = [] ∧ r1 = 2 := by
   have := HH.out
   rw [if_neg (by rw [Hb.out]; simp)] at this
   exact ⟨(Prod.mk.inj this).1.symm, (Prod.mk.inj this).2.symm⟩
  obtain ⟨rfl, rfl⟩ := hrr
  go_wp2
  refine bodyPost_ret (results_tmp2 rfl _ _ _) rfl ?_
  exact ⟨_, rfl, Kd.R_nil _ _ _ _ _, HB.out⟩
 | true =>
  have HS : Aside0 (Store ll) := ⟨store_of Hb.out⟩
  have hrr : r0 = lostOf ll ∧ r1 = 0 := by
   have := HH.out
   rw [if_pos Hb.out] at this
   exact ⟨(Prod.mk.inj this).1.symm, (Prod.mk.inj this).2.symm⟩
  obtain ⟨rfl, rfl⟩ := hrr
  go_wp2
  go_loopw [4, 12] (fun o i wr => ∃ (k : Nat) (A' : Option Addr) (m c' : Nat), k ≤ n ∧ o = .slice A' m c' ∧ i = .int .i64 k ∧ Aside0 ((dotsN ll k).length = m) ∧ Aside0 (RD wr w.heap.size (.slice A' m c') (dotsN ll k)) ∧ Aside0 (Below w.heap.size w wr)) (fun o i _ => n - (intOf i).toNat)
  case atStart => exact ⟨0, none, 0, 0, Nat.zero_le _, rfl, rfl, ⟨rfl⟩, ⟨Kd.R_nil _ _ _ _ _⟩, HB⟩
  case round =>
   obtain ⟨k, A', m, c', hk, rfl, rfl, Hm, HO, HB⟩ := hrel
   by_cases hlt : k < n
   ·
    have hltb : decide ((k : Int) < (n : Int)) = true := decide_eq_true (by omega)
    have hml : k < ll.length := by have := Hn.out; omega
    have hn6 : n ≤ 1000000 := by have h1 := Hn.out; have h2 := HL.out; omega
    obtain ⟨x, Hx⟩ : ∃ x, Aside0 (ll[k]? = some x) := ⟨_, ⟨List.getElem?_eq_getElem hml⟩⟩
    obtain ⟨ad, e, g0, g1, g2, g3, g4, g5⟩ := node_at HR.out HB.out k x Hx.out
    subst e
    have hN : (wr.alloc (boxN x)).heap[wr.heap.size]? = some (boxN x) := blk_new _ _
    have n0 : (wr.alloc (boxN x)).cell? ⟨wr.heap.size, 0, none⟩ = _ := (blk_cell hN 0).trans rfl
    have n1 : (wr.alloc (boxN x)).cell? ⟨wr.heap.size, 1, none⟩ = _ := (blk_cell hN 1).trans rfl
    have HBN := Aside0.mk (below_alloc HB.out (boxN x))
    have HO2 := Aside0.mk (RD.below' HO.out (Gr.alloc wr (boxN x)).below)
    have hmm : m ≤ 1000000 := by have h1 := Hm.out; have h2 := HL.out; unfold dotsN at h1; rw [List.length_map, List.length_take] at h1; omega
    obtain ⟨u2, w3, hrun, hrd, hgr, hat⟩ := run_append_dot w.heap.size 41 (.slice A' m c') (dotsN ll k) x.f0 (wr.heap.size + 1) 1 ((wr.alloc (boxN x)).alloc (dotC x.f0)) (RD.below' HO2.out (Gr.alloc _ _).below) (by have := blk_new (wr.alloc (boxN x)) (dotC x.f0); rwa [World.size_alloc] at this) (Nat.le_trans HBN.out.size (by rw [World.size_alloc (wr.alloc (boxN x))]; omega)) (by have h1 := Hm.out; omega)
    obtain ⟨A2, c2, rfl⟩ := RD.slice hrd
    obtain ⟨m2, Hm2⟩ : ∃ m2, Aside0 ((dotsN ll k ++ [x.f0]).length = m2) := ⟨_, ⟨rfl⟩⟩
    rw [Hm2.out] at hrun hrd
    have HST : Aside0 (dotsN ll (k + 1) = dotsN ll k ++ [x.f0]) := ⟨dotsN_succ Hx.out⟩
    have hb3 : Below w.heap.size w w3 := (below_alloc HBN.out (dotC x.f0)).grown hgr (below_alloc HBN.out (dotC x.f0)).size (fun q e => (RD.block (RD.below' HO2.out (Gr.alloc (wr.alloc (boxN x)) (dotC x.f0)).below) e.symm.symm).1)
    have HRUN := Aside0.mk hrun
    have HRD := Aside0.mk hrd
    have HBW := Aside0.mk hb3
    clear hrun hrd hgr hat hb3 hN hmm
    go_wp2_with (at_builtin; refine wpList_append_eq rfl (.tmp 16) (.tmp 19) 41 rfl rfl rfl HRUN.out ?_)
    go_roundw
    case rel => exact ⟨k + 1, A2, m2, c2, by omega, rfl, by go_num, ⟨by rw [HST.out]; exact Hm2.out⟩, ⟨by rw [HST.out]; exact HRD.out⟩, HBW⟩
    case measure => simp [intOf] <;> omega
   ·
    obtain rfl : k = n := by omega
    have hltb : decide ((k : Int) < (k : Int)) = false := decide_eq_false (by omega)
    have hall : dotsN ll k = ll.map (·.f0) := by unfold dotsN; rw [List.take_of_length_le (Nat.le_of_eq Hn.out)]
    have HRC := Aside0.mk (reached_call A0 k c0 ll wr Hn.out (by rw [← Hn.out]; exact Kd.C_below HR.out HB.out) (by rw [← Hn.out]; exact HC.out) HL.out HS.out Hb.out)
    go_wp2_with fail
    refine HRC.out.mono ?_
    rintro e w2 ⟨v, rfl, hv, hb⟩
    obtain ⟨A5, c5, e5, _, hC5⟩ := Kd.R_reads hv
    obtain ⟨q, hq⟩ : ∃ q, (dts (ordOf ll)).length = q := ⟨_, rfl⟩
    rw [hq] at e5 hC5
    subst e5
    have hCA : Kd.C k24 w2 A' m (ll.map (·.f0)) := by
     obtain ⟨A3, c3, e, _, hC⟩ := Kd.R_reads (RD.below' HO.out hb)
     rw [hall] at e hC
     have h1 := Hm.out
     rw [hall] at h1
     cases e
     exact hC
    have hMI := minus_call A' m c' (ll.map (·.f0)) A5 q c5 (dts (ordOf ll)) w2 (by rw [← hall]; exact Hm.out) hCA (by have h1 := Hm.out; rw [hall, List.length_map] at h1; have h2 := HL.out; omega) (by have := Hb.out; unfold storeOk at this; rw [Bool.and_eq_true] at this; exact this.2) hq hC5 (by rw [← hq]; unfold dts; rw [List.length_map]; exact Nat.le_trans (ord_le HS.out) HL.out) (reach_nodup HS.out)
    rw [lost_eq HS.out] at hMI
    have HMI := Aside0.mk hMI
    have HB2 := Aside0.mk (below_more HB.out hb)
    clear hv hb hq hC5 hCA hMI hall HRC
    go_wp2_with fail
    refine HMI.out.mono ?_
    rintro e w3 ⟨v3, rfl, h1, h2⟩
    obtain ⟨A6, c6, rfl⟩ := RD.slice h1
    have HE := Aside0.mk (And.intro (Kd.R_lower h1 HB2.out.size) (below_more HB2.out h2))
    clear h1 h2
    go_wp2
    refine bodyPost_ret (results_tmp2 rfl _ _ _) rfl ?_
    exact ⟨_, rfl, HE.out.1, HE.out.2⟩
end Go.Proofs.YtjlpaagnajmogaaGreat.PWalk
end
section
namespace Go.Proofs.YtjlpaagnajmogaaGreat.PWalk
open Go.RowKit Go.Proofs.YtjlpaagnajmogaaGreatW.PrintWords Go.Proofs.YtjlpaagnajmogaaGreatW.PrintLast Go.Proofs.YtjlpaagnajmogaaGreatW.PrintMore
set_option linter.unusedVariables false
set_option linter.unusedSimpArgs false
theorem eqA35 (d : Nat) (w : World) (x0 y0 : Int) (x1 y1 : Int) (x2 y2 : Int) (x3 y3 : Int) (x4 y4 : Int) (x5 y5 : Int) :
  (Op.equalIn (d + 3) 35 (.agg #[.int .i64 x0, .int .i64 x1, .int .i64 x2, .int .i64 x3, .int .i64 x4, .int .i32 x5]) (.agg #[.int .i64 y0, .int .i64 y1, .int .i64 y2, .int .i64 y3, .int .i64 y4, .int .i32 y5])).run Tryz.prog w = .ok ((x0 == y0 && (x1 == y1)) && ((x2 == y2 && (x3 == y3)) && (x4 == y4 && (x5 == y5)))) w := by
 refine eqA_of Tryz.underlying35 (by kernel_rfl) ?_
 refine eqf_cons (by rfl) (by go_simp) (by go_simp) (eqA24 (d + 0) w _ _ _ _) ?_
 refine eqf_cons (by rfl) (by go_simp) (by go_simp) (eqA24 (d + 0) w _ _ _ _) ?_
 refine eqf_cons (by rfl) (by go_simp; rfl) (by go_simp; rfl) (by go_simp) ?_
 exact eqf_last (by rfl) (by go_simp; rfl) (by go_simp; rfl) (by go_simp)
end Go.Proofs.YtjlpaagnajmogaaGreat.PWalk
end
section
namespace Go.QuietRound
variable {F : Fence} {n : Nat} {P : Program} {ops : Array Oper} {C : World → Prop} {md : Region.Mode}
def calm (o : Oper) : Bool := match o.op with | .defer _ => false | _ => true
theorem wpIn_op {o : Oper} {a : Act} {K : Act → Prop} {K' : Act → World → Prop} {Q' : Exit → Act → World → Prop} {w : World} {l : Nat} (hro : F.round = some l) (hd : calm o = true) (hw : C w) (h : ∀ a w', C w' → K a → K' a w')
  (ha : o.askedIn F P a C) (hh : o.quietIn F n P a C K) : o.wpIn F n P a w K' Q' := by
 obtain ⟨v, h1, h2⟩ := hh
 have h3 := h1 w hw
 refine ⟨ha w hw, ?_⟩
 rw [hro, Oper.semAt_some l _ _ (fun c e => by unfold calm at hd; rw [e] at hd; cases hd)]
 unfold Oper.quietAtIn at h3
 rcases hr : (execOp a.eval o).run P w with ⟨x, w'⟩ | ⟨x, w'⟩
 ·
  rw [hr] at h3
  cases x with
  | value u => obtain ⟨e1, e2⟩ := h3; subst e1 e2; exact h _ _ hw h2
  | skip => obtain ⟨e1, e2⟩ := h3; subst e1 e2; exact h _ _ hw h2
  | enter f args =>
   obtain ⟨e1, hd, hc⟩ := h3
   subst e1
   exact ⟨hd, hc.mono fun e w'' ⟨he, hw''⟩ => by subst he; exact h _ _ hw'' h2⟩
  | _ => exact h3.elim
 ·
  rw [hr] at h3; exact h3.elim
theorem wpOp {i : Nat} {a : Act} {K : Act → Prop} {K' : Act → World → Prop} {Q' : Exit → Act → World → Prop} {w : World} {l : Nat} (hro : F.round = some l) (hd : ∀ (i : Nat) (o : Oper), ops[i]? = some o → calm o = true) (hC : C w) (h : ∀ a w', C w' → K a → K' a w')
  (hh : qOpIn F n P ops C i K a) : wpOpIn F n P ops Q' i K' a w := by
 unfold qOpIn at hh
 unfold wpOpIn
 rcases ho : ops[i]? with _ | o
 ·
  rw [ho] at hh; exact h _ _ hC hh
 ·
  rw [ho] at hh
  obtain ⟨ha, hh⟩ := hh
  by_cases hw : Region.wanted o (yielded ops a.tmps) = true
  ·
   simp only [hw, if_true] at hh ⊢; exact wpIn_op hro (hd i o ho) hC h ha hh
  ·
   simp only [hw] at hh ⊢; exact ⟨ha w hC, h _ _ hC hh⟩
theorem wpAny {Q : Act → Prop} {Q' : Exit → Act → World → Prop} {l : Nat} (hro : F.round = some l) (hd : ∀ (i : Nat) (o : Oper), ops[i]? = some o → calm o = true) (hQ : ∀ a w, C w → Q a → Q' .normal a w) : ∀ (fuel : Nat) (listed : Array Bool) (a : Act) (w : World), C w →
  wpAnyQIn F n P md ops C Q fuel listed a → wpAnyIn F n P md ops Q' fuel listed a w
 | 0, _, _, _, hw, h => ⟨h.1, hQ _ _ hw h.2⟩
 | fuel + 1, _, _, _, hw, h => ⟨fun h0 => hQ _ _ hw (h.1 h0), fun i hi => wpOp hro hd hw (fun a' w' hw' => wpAny hro hd hQ fuel _ a' w' hw') (h.2 i hi)⟩
/-- The region's operations written out, at the worlds after some draws. -/
theorem region {id : Nat} {Q : Exit → Act → World → Prop} {a : Act} {w : World} {l : List Oper} {lp : Nat} (hro : F.round = some lp) (hm : P.follows .mixedOrders = true) (hB : Region.lexB .any l.toArray = true) (hd : l.all calm = true)
  (h : wpQuietIn F n P l.toArray (fun w' => ∃ n, w' = w.drewN n) (fun a' => ∀ w', (∃ n, w' = w.drewN n) → Q .normal a' w') l a) : (Code.region id l.toArray true).wpIn F n P Q a w := by
 simp only [Region.lexB, Bool.and_eq_true] at hB
 refine wpIn_region_any hm (wpAny (Q := fun a' => ∀ w', (∃ n, w' = w.drewN n) → Q .normal a' w') hro (fun i o hi => ?_) (fun _ w' hw' h => h w' hw') _ _ _ _ ⟨1, rfl⟩ ?_)
 ·
  rw [List.all_eq_true] at hd
  rw [List.getElem?_toArray] at hi
  exact hd o (List.mem_of_getElem? hi)
 ·
  have := wpAnyQIn_lex (F := F) (n := n) (P := P) (C := fun w' => ∃ n, w' = w.drewN n) (md := .any) hB.1 l 0 (Array.replicate l.toArray.size false) a (by simp) (by simpa using hB.2) h
  simpa using this
end Go.QuietRound
end
section
namespace Go.Proofs.YtjlpaagnajmogaaGreat.PWalk
open Go.RowKit Go.Proofs.YtjlpaagnajmogaaGreatW.PrintWords Go.Proofs.YtjlpaagnajmogaaGreatW.PrintLast Go.Proofs.YtjlpaagnajmogaaGreatW.PrintMore
set_option linter.unusedVariables false
set_option linter.unusedSimpArgs false
open Go.Shelf
attribute [local go_sem] Oper.semAt_some
def cutN (x : Node) : List Node → Nat
 | [] => 0
 | y :: r => if nodeLt y x then cutN x r + 1 else 0
theorem insB_cut (x : Node) : ∀ l, insB x l = l.take (cutN x l) ++ x :: l.drop (cutN x l)
 | [] => rfl
 | y :: r => by
  rw [insB, cutN]
  split
  ·
   rw [List.take_succ_cons, List.drop_succ_cons, List.cons_append, ← insB_cut x r]
  ·
   rfl
theorem cutN_is {x : Node} : ∀ {l : List Node} {k : Nat}, k ≤ l.length → (∀ j y, j < k → l[j]? = some y → nodeLt y x = true) → (∀ y, l[k]? = some y → nodeLt y x = false) → cutN x l = k
 | [], k, hk, _, _ => by simp at hk; subst hk; rfl
 | y :: r, 0, _, _, h => by rw [cutN, if_neg (by rw [h y rfl]; simp)]
 | y :: r, k + 1, hk, h1, h2 => by
  rw [cutN, if_pos (h1 0 y (by omega) rfl), cutN_is (k := k) (by simpa using hk) (fun j z hj hz => h1 (j + 1) z (by omega) (by simpa using hz)) (fun z hz => h2 z (by simpa using hz))]
theorem kids_take_succ {l : List Node} {d : Dot} {i : Nat} {x : Node} (h : l[i]? = some x) : kids (l.take (i + 1)) d = if x.f1 = d then insB x (kids (l.take i) d) else kids (l.take i) d := by
 unfold kids
 rw [List.take_succ_eq_append_getElem (List.getElem?_eq_some_iff.1 h).1, (List.getElem?_eq_some_iff.1 h).2, List.filter_append, List.foldl_append]
 by_cases e : x.f1 = d <;> simp [e]
theorem kids_le (l : List Node) (d : Dot) : (kids l d).length ≤ l.length := by
 rw [(kids_perm l d).length_eq]; exact List.length_filter_le _ _
def goesB (want : List Node) (ds : List Int) (few : Int) : List (Nat × Node) → Nat → Bool
 | [], i => decide (i = want.length)
 | p :: r, i => match want[i]? with
  | none => false
  | some y => if p.2 = y ∧ (p.1 : Int) = rd ds (i : Int) then (if ((i + 1 : Nat) : Int) = few then true else goesB want ds few r (i + 1)) else false
def redpencillaw11_goes.f (l0 l1 : List Node) (l2 : List Int) (a3 : Int) : Option Bool := if l0.length ≤ 1000000 ∧ l1.length ≤ l2.length then some (goesB l1 l2 a3 (ordOf (if storeOk l0 then l0 else [])) 0) else none
abbrev outK (k : Int) : Obj := .cells #[.int .i64 k] 3 (0, 0)
abbrev outI (u : Value) : Obj := .cells #[u] 40 (0, 0)
abbrev outB (b : Bool) : Obj := .cells #[.bool b] 4 (0, 0)
/-- How the range stands. -/
structure GoesI (w : World) (n₀ B5 B6 B7 R8 I : Nat) (v1 v2 : Value) (few : Int) (k : Nat) (W : World) : Prop where
 below : Below w.heap.size w W
 size : n₀ ≤ W.heap.size
 b5 : W.heap[B5]? = some (outN v1)
 b6 : W.heap[B6]? = some (outI v2)
 b7 : W.heap[B7]? = some (outK few)
 r8 : W.heap[R8]? = some (outB false)
 i : W.heap[I]? = some (outK k)
theorem GoesI.mv {w : World} {n₀ c B5 B6 B7 R8 I : Nat} {v1 v2 : Value} {few : Int} {k : Nat} {W V : World} (h : GoesI w n₀ B5 B6 B7 R8 I v1 v2 few k W) (hm : ListRange.Mv ownT c W V) (hc : w.heap.size ≤ c) : GoesI w n₀ B5 B6 B7 R8 I v1 v2 few k V :=
 ⟨hm.on h.below hc, Nat.le_trans h.size hm.size, hm.far h.b5 (by decide), hm.far h.b6 (by decide), hm.far h.b7 (by decide), hm.far h.r8 (by decide), hm.far h.i (by decide)⟩
theorem GoesI.walk {w : World} {n₀ B5 B6 B7 R8 I : Nat} {v1 v2 : Value} {few : Int} {k : Nat} {W V : World} (h : GoesI w n₀ B5 B6 B7 R8 I v1 v2 few k W) {row : Option Nat} (hg : W.grownBy V row) (hr : ∀ r, row = some r → w.heap.size ≤ r ∧ ∃ o : Obj, W.heap[r]? = some o ∧ o.isCells = false) : GoesI w n₀ B5 B6 B7 R8 I v1 v2 few k V :=
 have hc {q t : Nat} {cells : Array Value} (hq : W.heap[q]? = some (Obj.cells cells t (0, 0))) := cells_walk hg (fun r e => (hr r e).2) hq
 ⟨h.below.grown hg h.below.size (fun k e => (hr k e).1), Nat.le_trans h.size hg.size, hc h.b5, hc h.b6, hc h.b7, hc h.r8, hc h.i⟩
theorem GoesI.more {w : World} {n₀ B5 B6 B7 R8 I : Nat} {v1 v2 : Value} {few : Int} {k : Nat} {W V : World} (h : GoesI w n₀ B5 B6 B7 R8 I v1 v2 few k W) (hb : Below W.heap.size W V) : GoesI w n₀ B5 B6 B7 R8 I v1 v2 few k V :=
 ⟨below_more h.below hb, Nat.le_trans h.size hb.size, blk_keep h.b5 hb, blk_keep h.b6 hb, blk_keep h.b7 hb, blk_keep h.r8 hb, blk_keep h.i hb⟩
/-- What a round has found. -/
structure GoesX (w : World) (R8 : Nat) (b : Bool) (W : World) : Prop where
 r8 : W.heap[R8]? = some (outB b)
 below : Below w.heap.size w W
theorem GoesX.mv {w : World} {c R8 : Nat} {b : Bool} {W V : World} (h : GoesX w R8 b W) (hm : ListRange.Mv ownT c W V) (hc : w.heap.size ≤ c) : GoesX w R8 b V := ⟨hm.far h.r8 (by decide), hm.on h.below hc⟩
theorem GoesX.walk {w : World} {R8 : Nat} {b : Bool} {W V : World} (h : GoesX w R8 b W) {row : Option Nat} (hg : W.grownBy V row) (hr : ∀ r, row = some r → w.heap.size ≤ r ∧ ∃ o : Obj, W.heap[r]? = some o ∧ o.isCells = false) : GoesX w R8 b V :=
 ⟨cells_walk hg (fun r e => (hr r e).2) h.r8, h.below.grown hg h.below.size (fun k e => (hr k e).1)⟩
/-- A cell of one block is set. -/
theorem keeps_set {n₀ I t : Nat} {W V : World} {v v2 : Value} (h1 : W.heap[I]? = some (.cells #[v] t (0, 0))) (hV : Below W.heap.size W V) : KeepsFrom n₀ W (V.setCell ⟨I, 0, none⟩ v2) := by
 refine ⟨by rw [World.size_setCell]; exact hV.size, fun q o hB hq hoc => ?_⟩
 rw [far_setCell (fun e => by subst e; rw [h1] at hq; cases hq; cases hoc)]
 exact blk_keep hq hV
theorem kp_set {n₀ I t : Nat} {W V : World} {v v2 : Value} (h1 : W.heap[I]? = some (.cells #[v] t (0, 0))) (ht : ¬ ownT t) (hV : Below W.heap.size W V) (hn : n₀ ≤ W.heap.size) : KpT n₀ (fun i => i = I) W (V.setCell ⟨I, 0, none⟩ v2) := by
 refine ⟨⟨by rw [World.size_setCell]; exact hV.size, fun q hq hE => ?_⟩, fun q c t' hq ht' => ?_⟩
 ·
  rw [far_setCell hE]
  exact hV.block q (Nat.lt_of_lt_of_le hq hn)
 ·
  rw [far_setCell (fun e => by subst e; rw [h1] at hq; cases hq; exact ht ht')]
  exact blk_keep hq hV
theorem results_bool {fn : Func} (h : fn.results = #[.cell 8 4]) (tmps : Array Value) (W : World) (R8 : Nat) (b : Bool) (h8 : tmps.getD 8 undef = .pointer (some ⟨R8, 0, none⟩)) (b8 : W.heap[R8]? = some (outB b)) : (results fn tmps).run Tryz.prog W = .ok (.bool b) W := by
 have h8' : tmps[8]?.getD undef = .pointer (some ⟨R8, 0, none⟩) := by simpa using h8
 have hc : W.cell? ⟨R8, 0, none⟩ = some (.bool b) := (blk_cell b8 0).trans rfl
 unfold results
 rw [h]
 simp [go_sem, h8', Tryz.underlying4, hc]
theorem func_not_nil (fn : Nat) (caps env : Array Value) (w : World) : Sem.run Tryz.prog (binOp BinOp.eql 91 (Value.func (Fn.func fn) caps env) Value.nilFunc) w = .ok (.bool false) w := by
 have h : ((Tryz.prog.underlying 91).map fun d => match d with | .func .. => true | _ => false) = some true := by kernel_rfl
 obtain ⟨d, h, hd⟩ := Option.map_eq_some_iff.1 h
 have h2 : Sem.run Tryz.prog (Op.equalIn (9999 + 1) 91 (Value.func (Fn.func fn) caps env) Value.nilFunc) w = .ok false w := by
  rw [Op.equalIn, Sem.run_bind, run_underlying h w]
  cases d <;> first | (cases hd; done) | rfl
 unfold binOp Op.equal
 rw [Sem.run_bind, show Op.maxDepth = 9999 + 1 from rfl, h2]
 rfl
attribute [local go_sem high] eqA35 eqA24
set_option maxHeartbeats 2000000 in
set_option maxRecDepth 100000 in
theorem redpencillaw11_goes.calls (A0 : Option Addr) (c0 : Nat) (l0 : List Node) (A1 : Option Addr) (c1 : Nat) (l1 : List Node) (A2 : Option Addr) (c2 : Nat) (l2 : List Int) (a3 : Int) (r : Bool) (w : World) (hr0 : Kd.C k35 w A0 l0.length l0) (hc0 : l0.length ≤ c0) (hr1 : Kd.C k35 w A1 l1.length l1) (hc1 : l1.length ≤ c1) (hr2 : Kd.C (Kd.int .i64) w A2 l2.length l2) (hc2 : l2.length ≤ c2) (h : redpencillaw11_goes.f l0 l1 l2 a3 = some r) :
  Calls Tryz.prog 21 #[.slice A0 l0.length c0, .slice A1 l1.length c1, .slice A2 l2.length c2, .int .i64 a3] w fun e w' => e = .returned (.bool r) ∧ Below w.heap.size w w' := by
 unfold redpencillaw11_goes.f at h
 by_cases hl : l0.length ≤ 1000000 ∧ l1.length ≤ l2.length
 rotate_left
 ·
  rw [if_neg hl] at h; cases h
 rw [if_pos hl] at h
 obtain ⟨ll, Hll⟩ : ∃ ll, Aside0 ((if storeOk l0 then l0 else []) = ll) := ⟨_, ⟨rfl⟩⟩
 rw [Hll.out] at h
 have HS : Aside0 (Store ll) := ⟨by
  rw [← Hll.out]
  by_cases hs : storeOk l0 = true
  ·
   rw [if_pos hs]; exact store_of hs
  ·
   rw [if_neg hs]; exact ⟨fun x hx => (by cases hx), List.Pairwise.nil⟩⟩
 have HL : Aside0 (ll.length ≤ 1000000) := ⟨by
  rw [← Hll.out]
  split
  ·
   exact hl.1
  ·
   simp⟩
 have HH := Aside0.mk (Option.some.inj h)
 have HR1 := Aside0.mk hr1
 have HR2 := Aside0.mk hr2
 have HLE := Aside0.mk hl.2
 obtain ⟨n1, Hn1⟩ : ∃ n, Aside0 (l1.length = n) := ⟨_, ⟨rfl⟩⟩
 obtain ⟨n2, Hn2⟩ : ∃ n, Aside0 (l2.length = n) := ⟨_, ⟨rfl⟩⟩
 obtain ⟨n0, Hn0⟩ : ∃ n, Aside0 (l0.length = n) := ⟨_, ⟨rfl⟩⟩
 rw [Hn1.out, Hn2.out, Hn0.out]
 obtain ⟨W4, HW4⟩ : ∃ W4, Aside0 (((((w.alloc (outN (.slice A1 n1 c1))).alloc (outI (.slice A2 n2 c2))).alloc (outK a3)).alloc (outB false)) = W4) := ⟨_, ⟨rfl⟩⟩
 obtain ⟨B5, H5e⟩ : ∃ B, Aside0 (w.heap.size = B) := ⟨_, ⟨rfl⟩⟩
 obtain ⟨B6, H6e⟩ : ∃ B, Aside0 (w.heap.size + 1 = B) := ⟨_, ⟨rfl⟩⟩
 obtain ⟨B7, H7e⟩ : ∃ B, Aside0 (w.heap.size + 1 + 1 = B) := ⟨_, ⟨rfl⟩⟩
 obtain ⟨R8, H8e⟩ : ∃ B, Aside0 (w.heap.size + 1 + 1 + 1 = B) := ⟨_, ⟨rfl⟩⟩
 have HB4 : Aside0 (Below w.heap.size w W4) := ⟨by rw [← HW4.out]; exact ((((Gr.alloc _ _).trans (Gr.alloc _ _)).trans (Gr.alloc _ _)).trans (Gr.alloc _ _)).below⟩
 have HK5 : Aside0 (W4.heap[B5]? = some (outN (.slice A1 n1 c1))) := ⟨by rw [← HW4.out, ← H5e.out]; exact blk_alloc (blk_alloc (blk_alloc (blk_new _ _) _) _) _⟩
 have HK6 : Aside0 (W4.heap[B6]? = some (outI (.slice A2 n2 c2))) := ⟨by
  rw [← HW4.out, ← H6e.out]
  have := blk_new (w.alloc (outN (.slice A1 n1 c1))) (outI (.slice A2 n2 c2))
  rw [World.size_alloc] at this
  exact blk_alloc (blk_alloc this _) _⟩
 have HK7 : Aside0 (W4.heap[B7]? = some (outK a3)) := ⟨by
  rw [← HW4.out, ← H7e.out]
  have := blk_new ((w.alloc (outN (.slice A1 n1 c1))).alloc (outI (.slice A2 n2 c2))) (outK a3)
  rw [World.size_alloc, World.size_alloc] at this
  exact blk_alloc this _⟩
 have HK8 : Aside0 (W4.heap[R8]? = some (outB false)) := ⟨by
  rw [← HW4.out, ← H8e.out]
  have := blk_new (((w.alloc (outN (.slice A1 n1 c1))).alloc (outI (.slice A2 n2 c2))).alloc (outK a3)) (outB false)
  rwa [World.size_alloc, World.size_alloc, World.size_alloc] at this⟩
 have HAF := Aside0.mk (all_fn A0 n0 c0 l0 W4 Hn0.out (by rw [← Hn0.out]; exact Kd.C_below hr0 HB4.out) (by rw [← Hn0.out]; exact hc0) hl.1)
 rw [Hll.out] at HAF
 have HSE : Aside0 (w.heap.size ≤ B5 ∧ w.heap.size ≤ B6 ∧ w.heap.size ≤ B7 ∧ w.heap.size ≤ R8) := ⟨by have h1 := H5e.out; have h2 := H6e.out; have h3 := H7e.out; have h4 := H8e.out; omega⟩
 clear hr0 hc0 hr1 hc1 hr2 hc2 hl h Hll
 refine calls_of_wp_m Tryz.func21 rfl ?_
 simp only [Tryz.ntmps21, List.size_toArray, List.length_cons, List.length_nil, Nat.reduceAdd, Nat.reduceSub, Array.replicate_succ, Array.replicate_zero, List.push_toArray, List.append_toArray, List.nil_append, List.cons_append]
 go_wp2_with fail
 rw [show (Value.pointer (some { block := w.heap.size + 1 + 1 + 1, off := 0 })) = .pointer (some ⟨R8, 0, none⟩) by rw [H8e.out], show (Value.pointer (some { block := w.heap.size + 1 + 1, off := 0 })) = .pointer (some ⟨B7, 0, none⟩) by rw [H7e.out], show (Value.pointer (some { block := w.heap.size + 1, off := 0 })) = .pointer (some ⟨B6, 0, none⟩) by rw [H6e.out], show (Value.pointer (some { block := w.heap.size, off := 0 })) = .pointer (some ⟨B5, 0, none⟩) by rw [H5e.out], HW4.out]
 refine HAF.out.mono ?_
 rintro e w3 ⟨Fb, mp, rfl, hF, hfam, hb⟩
 have HF2 := Aside0.mk hF
 have HFM := Aside0.mk hfam
 have HB := Aside0.mk (below_more HB4.out hb)
 have HK5 := Aside0.mk (blk_keep HK5.out hb)
 have HK6 := Aside0.mk (blk_keep HK6.out hb)
 have HK7 := Aside0.mk (blk_keep HK7.out hb)
 have HK8 := Aside0.mk (blk_keep HK8.out hb)
 clear hF hfam hb HAF HB4 HW4
 have hnil := func_not_nil 114 #[] #[.pointer (some ⟨Fb, 0, none⟩)] w3
 obtain ⟨I, HIe⟩ : ∃ I, Aside0 (w3.heap.size = I) := ⟨_, ⟨rfl⟩⟩
 have HI0 : Aside0 ((w3.alloc (outK 0)).heap[I]? = some (outK 0)) := ⟨by rw [← HIe.out]; exact blk_new _ _⟩
 have hi0 : (w3.alloc (outK 0)).cell? ⟨I, 0, none⟩ = _ := (blk_cell HI0.out 0).trans rfl
 go_wp2_with fail
 obtain ⟨w4, Hw4⟩ : ∃ w4, Aside0 (w3.alloc (outK 0) = w4) := ⟨_, ⟨rfl⟩⟩
 have hgr := (Gr.alloc w3 (outK 0)).below
 have hlt4 : I < w4.heap.size := by rw [← Hw4.out, World.size_alloc, ← HIe.out]; omega
 have hI4 := HI0.out
 rw [Hw4.out] at hgr hI4
 rw [show w3.alloc (Obj.cells #[Value.int IntKind.i64 0] 3) = w4 from Hw4.out, show (Value.pointer (some { block := w3.heap.size, off := 0 })) = .pointer (some ⟨I, 0, none⟩) by rw [HIe.out]]
 have HI := Aside0.mk hI4
 have HLT := Aside0.mk hlt4
 have HNE : Aside0 (B7 ≠ I ∧ R8 ≠ I ∧ B5 ≠ I ∧ B6 ≠ I) := ⟨by have h1 := blk_lt HK7.out; have h2 := blk_lt HK8.out; have h4 := blk_lt HK5.out; have h5 := blk_lt HK6.out; have h3 := HIe.out; omega⟩
 have HSI : Aside0 (w.heap.size ≤ I) := ⟨by rw [← HIe.out]; exact HB.out.size⟩
 have HF4 := Aside0.mk (blk_keep HF2.out hgr)
 have HFM4 := Aside0.mk (HFM.out.below hgr)
 have HB4 := Aside0.mk (below_more HB.out hgr)
 have HK5 := Aside0.mk (blk_keep HK5.out hgr)
 have HK6 := Aside0.mk (blk_keep HK6.out hgr)
 have HK7 := Aside0.mk (blk_keep HK7.out hgr)
 have HK8 := Aside0.mk (blk_keep HK8.out hgr)
 clear hnil hi0 HI0 hgr hI4 hlt4 HF2 HFM
 refine wpIn_wide.1 (ListRange.wpIn_move (n := 10) (F := Fence.wide) rfl (by decide) (gf := 114) (lb := #[.pointer (some ⟨Fb, 0, none⟩)]) rfl trivial Tryz.call114
  (encs := fun x : Nat × Node => #[.int .i64 (x.1 : Int), vNode x.2]) (Kp := KpT w4.heap.size (fun i => i = I)) (L := ordOf ll) (w0 := w4) ownT
  (all_moves _ mp Fb (fun i => i = I) ll w4 HS.out HL.out HF4.out HFM4.out (fun i c t e hc => by subst e; rw [HI.out] at hc; cases hc; exact .inr (.inr rfl)))
  (fun h k => h.trans k) (fun W l o o' hl ho hc _ => KpT.put (Nat.le_refl _) W l o o' hl ho hc) (Below.refl _ _) (fun _ => rfl)
  (fun k W => GoesI w w4.heap.size B5 B6 B7 R8 I (.slice A1 n1 c1) (.slice A2 n2 c2) a3 k W ∧ goesB l1 l2 a3 ((ordOf ll).drop k) k = goesB l1 l2 a3 (ordOf ll) 0)
  (fun c k W => c = .ret ∧ ∃ b, GoesX w R8 b W ∧ goesB l1 l2 a3 (ordOf ll) 0 = b)
  (fun k W W' row hs hg hr => ⟨hs.1.walk hg (fun r e => ⟨Nat.le_trans HB4.out.size (hr r e).1, (hr r e).2⟩), hs.2⟩) (fun c k W W' row hs hg hr => ⟨hs.1, hs.2.imp fun q hq => ⟨hq.1.walk hg (fun r e => ⟨Nat.le_trans HB4.out.size (hr r e).1, (hr r e).2⟩), hq.2⟩⟩)
  (fun k A B hm hs => ⟨hs.1.mv hm HB4.out.size, hs.2⟩) (fun c k A B hm hs => ⟨hs.1, hs.2.imp fun q hq => ⟨hq.1.mv hm HB4.out.size, hq.2⟩⟩)
  ⟨⟨HB4.out, Nat.le_refl _, HK5.out, HK6.out, HK7.out, HK8.out, HI.out⟩, rfl⟩
  (fun x a' W => ∃ Nb, w4.heap.size ≤ Nb ∧ W.heap[Nb]? = some (boxN x.2) ∧ a' = { tmps := #[.slice A0 n0 c0, .slice A1 n1 c1, .slice A2 n2 c2, .int .i64 a3, undef, .pointer (some ⟨B5, 0, none⟩), .pointer (some ⟨B6, 0, none⟩), .pointer (some ⟨B7, 0, none⟩), .pointer (some ⟨R8, 0, none⟩), .func (.func 114) #[] #[.pointer (some ⟨Fb, 0, none⟩)], .pointer (some ⟨I, 0, none⟩), .int .i64 (x.1 : Int), .pointer (some ⟨Nb, 0, none⟩), .slice A0 n0 c0, .func (.func 114) #[] #[.pointer (some ⟨Fb, 0, none⟩)], .func (.func 114) #[] #[.pointer (some ⟨Fb, 0, none⟩)], .bool false, .func (.func 114) #[] #[.pointer (some ⟨Fb, 0, none⟩)], .int .i64 (x.1 : Int), vNode x.2, undef, undef, undef, undef, undef, undef, undef, undef, undef, undef, undef, undef, undef, undef, undef, undef, undef, undef, undef, undef, undef, undef, undef, undef, undef, undef, undef, undef, undef], defers := [] })
  (fun x a' _ W W' row hs hg hr => by
   obtain ⟨Nb, h1, h2, h3⟩ := hs
   exact ⟨Nb, h1, cells_walk hg (fun r e => (hr r e).2) h2, h3⟩)
  ?assign ?body ?done ?stop)
 case assign =>
  rintro lp k x W K hx ⟨h1, h2⟩ hK
  gi_wp2
  exact hK _ _ ((KeepsOthers.alloc _ _).from _) (KpT.below (Gr.alloc W _).below h1.size) ⟨h1.more (Gr.alloc W _).below, h2⟩ ⟨W.heap.size, h1.size, blk_new _ _, rfl⟩
 case body =>
  rintro lp k x a' W hx hl2 ⟨rr, hrr⟩ ⟨h1, h2⟩ ⟨Nb, hx1, hx2, rfl⟩
  have HDR : Aside0 ((ordOf ll).drop k = x :: (ordOf ll).drop (k + 1)) := ⟨by rw [← (List.getElem?_eq_some_iff.1 hx).2, ← List.drop_eq_getElem_cons]⟩
  rw [HDR.out] at h2
  have HKM : Aside0 (k ≤ 1000000) := ⟨by have h3 := (List.getElem?_eq_some_iff.1 hx).1; have h4 := ord_le HS.out; have h5 := HL.out; omega⟩
  obtain ⟨x0, y⟩ := x
  dsimp only at hx2 HDR h2 ⊢
  have cI : W.cell? ⟨I, 0, none⟩ = _ := (blk_cell h1.i 0).trans rfl
  have c5 : W.cell? ⟨B5, 0, none⟩ = _ := (blk_cell h1.b5 0).trans rfl
  have c6 : W.cell? ⟨B6, 0, none⟩ = _ := (blk_cell h1.b6 0).trans rfl
  have c7 : W.cell? ⟨B7, 0, none⟩ = _ := (blk_cell h1.b7 0).trans rfl
  have c8 : W.cell? ⟨R8, 0, none⟩ = _ := (blk_cell h1.r8 0).trans rfl
  have f8 := blk_frozen h1.r8 0
  have fI := blk_frozen h1.i 0
  have n0 : W.cell? ⟨Nb, 0, none⟩ = _ := (blk_cell hx2 0).trans rfl
  have n1' : W.cell? ⟨Nb, 1, none⟩ = _ := (blk_cell hx2 1).trans rfl
  have n2' : W.cell? ⟨Nb, 2, none⟩ = _ := (blk_cell hx2 2).trans rfl
  have n3' : W.cell? ⟨Nb, 3, none⟩ = _ := (blk_cell hx2 3).trans rfl
  have n4' : W.cell? ⟨Nb, 4, none⟩ = _ := (blk_cell hx2 4).trans rfl
  have n5' : W.cell? ⟨Nb, 5, none⟩ = _ := (blk_cell hx2 5).trans rfl
  have H1 := Aside0.mk h1
  have H2 := Aside0.mk h2
  have HLP := Aside0.mk hl2
  clear h1 h2 hx hx1 hx2 hrr hl2
  by_cases hlt : k < n1
  ·
   obtain ⟨y2, hy2⟩ : ∃ y2, l1[k]? = some y2 := ⟨_, List.getElem?_eq_getElem (by rw [Hn1.out]; exact hlt)⟩
   obtain ⟨ad1, e1, g0, g1, g2, g3, g4, g5⟩ := node_at HR1.out H1.out.below k y2 hy2
   obtain ⟨ad2, e2, d0⟩ := Kd.at_int HR2.out (k : Int) (by omega) (by have := HLE.out; have := Hn1.out; omega)
   subst e1 e2
   rw [Int.toNat_natCast] at d0
   have d0 := pw_cell_below H1.out.below d0
   have hk2 : k < n2 := by have h3 := HLE.out; have h4 := Hn1.out; have h5 := Hn2.out; omega
   have hgo : goesB l1 l2 a3 (ordOf ll) 0 = if y = y2 ∧ (x0 : Int) = rd l2 (k : Int) then (if ((k + 1 : Nat) : Int) = a3 then true else goesB l1 l2 a3 ((ordOf ll).drop (k + 1)) (k + 1)) else false := by
    rw [← H2.out, goesB, hy2]
   by_cases hy : y = y2
   ·
    subst hy
    obtain ⟨z, hz⟩ : ∃ z, rd l2 (k : Int) = z := ⟨_, rfl⟩
    rw [hz] at hgo d0
    by_cases hd : (x0 : Int) = z
    ·
     subst hd
     have hw : wrap64 ((k : Int) + 1) = (k : Int) + 1 := by have := HKM.out; unfold wrap64; omega
     rw [if_pos ⟨rfl, rfl⟩] at hgo
     by_cases hf : (k : Int) + 1 = a3
     ·
      subst hf
      have HE : Aside0 (goesB l1 l2 ((k : Int) + 1) (ordOf ll) 0 = true) := ⟨by rw [hgo, if_pos (by omega)]⟩
      clear hgo
      gi_wp2
      refine QuietRound.region rfl (by kernel_rfl) (by kernel_rfl) (by kernel_rfl) ?_
      repeat (quiet_step_in (fail))
      refine wpQuietIn_nil ?_
      rintro _ ⟨nq, rfl⟩
      have hd := (Gr.drawn (w := W) ⟨nq, rfl⟩).below
      have c7' : ∀ v, ((W.drewN nq).setCell ⟨I, 0, none⟩ v).cell? ⟨B7, 0, none⟩ = some (.int .i64 ((k : Int) + 1)) := fun v => (blk_cell ((far_setCell HNE.out.1).trans (blk_keep H1.out.b7 hd)) 0).trans rfl
      have hi8 : ∀ v, ((W.drewN nq).setCell ⟨I, 0, none⟩ v).heap[R8]? = some (outB false) := fun v => (far_setCell HNE.out.2.1).trans (blk_keep H1.out.r8 hd)
      have c8' : ∀ v, ((W.drewN nq).setCell ⟨I, 0, none⟩ v).cell? ⟨R8, 0, none⟩ = some (.bool false) := fun v => (blk_cell (hi8 v) 0).trans rfl
      have f8' : ∀ v, ((W.drewN nq).setCell ⟨I, 0, none⟩ v).frozen? ⟨R8, 0, none⟩ = false := fun v => blk_frozen (hi8 v) 0
      gi_wp2
      refine ⟨⟨by rw [World.size_setCell, World.size_setCell]; exact hd.size, fun q o hB hq hoc => ?_⟩, rfl, true, ⟨blk_set (hi8 _) 0 _, below_setCell (below_setCell (below_more H1.out.below hd) HSI.out 0 _) HSE.out.2.2.2 0 _⟩, HE.out⟩
      rw [far_setCell (fun e => by subst e; rw [H1.out.r8] at hq; cases hq; cases hoc), far_setCell (fun e => by subst e; rw [H1.out.i] at hq; cases hq; cases hoc)]
      exact blk_keep hq hd
     ·
      have HE : Aside0 (goesB l1 l2 a3 ((ordOf ll).drop (k + 1)) (k + 1) = goesB l1 l2 a3 (ordOf ll) 0) := ⟨by rw [hgo, if_neg (fun h => hf (by omega))]⟩
      clear hgo
      gi_wp2
      refine QuietRound.region rfl (by kernel_rfl) (by kernel_rfl) (by kernel_rfl) ?_
      repeat (quiet_step_in (fail))
      refine wpQuietIn_nil ?_
      rintro _ ⟨nq, rfl⟩
      have hd := (Gr.drawn (w := W) ⟨nq, rfl⟩).below
      have c7' : ∀ v, ((W.drewN nq).setCell ⟨I, 0, none⟩ v).cell? ⟨B7, 0, none⟩ = some (.int .i64 a3) := fun v => (blk_cell ((far_setCell HNE.out.1).trans (blk_keep H1.out.b7 hd)) 0).trans rfl
      have hi8 : ∀ v, ((W.drewN nq).setCell ⟨I, 0, none⟩ v).heap[R8]? = some (outB false) := fun v => (far_setCell HNE.out.2.1).trans (blk_keep H1.out.r8 hd)
      have c8' : ∀ v, ((W.drewN nq).setCell ⟨I, 0, none⟩ v).cell? ⟨R8, 0, none⟩ = some (.bool false) := fun v => (blk_cell (hi8 v) 0).trans rfl
      have f8' : ∀ v, ((W.drewN nq).setCell ⟨I, 0, none⟩ v).frozen? ⟨R8, 0, none⟩ = false := fun v => blk_frozen (hi8 v) 0
      gi_wp2
      exact ⟨keeps_set H1.out.i hd, kp_set H1.out.i (by decide) hd H1.out.size, ⟨below_setCell (below_more H1.out.below hd) HSI.out 0 _, by rw [World.size_setCell]; exact Nat.le_trans H1.out.size hd.size, (far_setCell HNE.out.2.2.1).trans (blk_keep H1.out.b5 hd), (far_setCell HNE.out.2.2.2).trans (blk_keep H1.out.b6 hd), (far_setCell HNE.out.1).trans (blk_keep H1.out.b7 hd), hi8 _, blk_set (blk_keep H1.out.i hd) 0 _⟩, HE.out⟩
    ·
     have HE : Aside0 (goesB l1 l2 a3 (ordOf ll) 0 = false) := ⟨by rw [hgo, if_neg (fun h => hd h.2)]⟩
     have hdb : ((x0 : Int) != z) = true := bne_iff_ne.2 hd
     clear hgo
     gi_wp2
     refine QuietRound.region rfl (by kernel_rfl) (by kernel_rfl) (by kernel_rfl) ?_
     repeat (quiet_step_in (fail))
     refine wpQuietIn_nil ?_
     rintro _ ⟨nq, rfl⟩
     gi_wp2
     have hd := (Gr.drawn (w := W) ⟨nq, rfl⟩).below
     exact ⟨keeps_set H1.out.r8 hd, rfl, false, ⟨blk_set (blk_keep H1.out.r8 hd) 0 _, below_setCell (below_more H1.out.below hd) HSE.out.2.2.2 0 _⟩, HE.out⟩
   ·
    have HE : Aside0 (goesB l1 l2 a3 (ordOf ll) 0 = false) := ⟨by rw [hgo, if_neg (fun h => hy h.1)]⟩
    have hne : ((y.f0.f0 == y2.f0.f0 && (y.f0.f1 == y2.f0.f1)) && ((y.f1.f0 == y2.f1.f0 && (y.f1.f1 == y2.f1.f1)) && (y.f2 == y2.f2 && (y.f3 == y2.f3)))) = false := by
     rw [Bool.eq_false_iff]
     intro h
     simp only [Bool.and_eq_true, beq_iff_eq] at h
     exact hy (Node.ext_iff'.2 ⟨Dot.ext' h.1.1 h.1.2, Dot.ext' h.2.1.1 h.2.1.2, h.2.2.1, h.2.2.2⟩)
    clear hgo hy d0 hk2
    gi_wp2
    refine QuietRound.region rfl (by kernel_rfl) (by kernel_rfl) (by kernel_rfl) ?_
    repeat (quiet_step_in (fail))
    refine wpQuietIn_nil ?_
    rintro _ ⟨nq, rfl⟩
    gi_wp2
    have hd := (Gr.drawn (w := W) ⟨nq, rfl⟩).below
    exact ⟨keeps_set H1.out.r8 hd, rfl, false, ⟨blk_set (blk_keep H1.out.r8 hd) 0 _, below_setCell (below_more H1.out.below hd) HSE.out.2.2.2 0 _⟩, HE.out⟩
  ·
   have hb : decide ((k : Int) ≥ (n1 : Int)) = true := decide_eq_true (by omega)
   have hb' : decide ((n1 : Int) ≤ (k : Int)) = true := decide_eq_true (by omega)
   have HE : Aside0 (goesB l1 l2 a3 (ordOf ll) 0 = false) := ⟨by rw [← H2.out, goesB, List.getElem?_eq_none (by rw [Hn1.out]; omega)]⟩
   have hle : n1 ≤ k := by omega
   gi_wp2
   refine QuietRound.region rfl (by kernel_rfl) (by kernel_rfl) (by kernel_rfl) ?_
   repeat (quiet_step_in (fail))
   refine wpQuietIn_nil ?_
   rintro _ ⟨nq, rfl⟩
   gi_wp2
   have hd := (Gr.drawn (w := W) ⟨nq, rfl⟩).below
   exact ⟨keeps_set H1.out.r8 hd, rfl, false, ⟨blk_set (blk_keep H1.out.r8 hd) 0 _, below_setCell (below_more H1.out.below hd) HSE.out.2.2.2 0 _⟩, HE.out⟩
 case done =>
  rintro D W hD ⟨h1, h2⟩ hDK
  rw [List.drop_length, goesB, HH.out, Hn1.out] at h2
  obtain ⟨q, hq⟩ : ∃ q, (ordOf ll).length = q := ⟨_, rfl⟩
  rw [hq] at h1 h2
  have cI : W.cell? ⟨I, 0, none⟩ = _ := (blk_cell h1.i 0).trans rfl
  have c5 : W.cell? ⟨B5, 0, none⟩ = _ := (blk_cell h1.b5 0).trans rfl
  have c8 : W.cell? ⟨R8, 0, none⟩ = _ := (blk_cell h1.r8 0).trans rfl
  have f8 := blk_frozen h1.r8 0
  have HDKE : Aside0 (W.heap[D]? = some (.deferred (some [])) ∧ w.heap.size ≤ D ∧ D ≠ R8) := ⟨⟨hDK, Nat.le_trans HB4.out.size hD, fun e => (by rw [e, h1.r8] at hDK; cases hDK)⟩⟩
  have H1 := Aside0.mk h1
  have H2 := Aside0.mk h2
  clear h1 h2 hD hDK hq
  by_cases hqn : q = n1
  ·
   have HRT : Aside0 (r = true) := ⟨by rw [← H2.out, decide_eq_true hqn]⟩
   subst hqn
   go_wp2
   refine leaves_of_marks2 (n0 := w.heap.size) [mkMark D] _ ⟨[D], rfl, by simp, fun E hE => ?_⟩ (fun W' hm => ⟨_, results_bool rfl _ W' R8 _ rfl ((hm.block R8 (.inr fun d e => ?_)).trans (blk_set H1.out.r8 0 _)), by rw [HRT.out], below_onlyMarks (below_setCell H1.out.below HSE.out.2.2.2 0 _) hm⟩)
   ·
    simp only [List.mem_singleton] at hE
    subst hE
    exact ⟨HDKE.out.2.1, (far_setCell HDKE.out.2.2).trans HDKE.out.1⟩
   ·
    rw [blk_set H1.out.r8 0] at e; cases e
  ·
   have HRT : Aside0 (r = false) := ⟨by rw [← H2.out, decide_eq_false hqn]⟩
   have hqb : ((q : Int) == (n1 : Int)) = false := beq_eq_false_iff_ne.2 (by omega)
   go_wp2
   refine leaves_of_marks2 (n0 := w.heap.size) [mkMark D] _ ⟨[D], rfl, by simp, fun E hE => ?_⟩ (fun W' hm => ⟨_, results_bool rfl _ W' R8 _ rfl ((hm.block R8 (.inr fun d e => ?_)).trans (blk_set H1.out.r8 0 _)), by rw [HRT.out], below_onlyMarks (below_setCell H1.out.below HSE.out.2.2.2 0 _) hm⟩)
   ·
    simp only [List.mem_singleton] at hE
    subst hE
    exact ⟨HDKE.out.2.1, (far_setCell HDKE.out.2.2).trans HDKE.out.1⟩
   ·
    rw [blk_set H1.out.r8 0] at e; cases e
 case stop =>
  rintro D c k W hD _ ⟨rfl, b, ⟨h8, hbl⟩, hq⟩ hDK
  have HRT : Aside0 (r = b) := ⟨by rw [← HH.out, hq]⟩
  have HE := Aside0.mk (And.intro h8 (And.intro hbl hDK))
  have HD := Aside0.mk hD
  clear h8 hbl hDK hD hq
  refine wpIn_wide.2 ?_
  dsimp only
  go_wp2
  refine leaves_of_marks2 (n0 := w.heap.size) [mkMark D] _ ⟨[D], rfl, by simp, fun E hE => ?_⟩ (fun W' hm => ⟨_, results_bool rfl _ W' R8 _ rfl ((hm.block R8 (.inr fun d e => ?_)).trans HE.out.1), by rw [HRT.out], below_onlyMarks HE.out.2.1 hm⟩)
  ·
   simp only [List.mem_singleton] at hE
   subst hE
   exact ⟨Nat.le_trans HB4.out.size HD.out, HE.out.2.2⟩
  ·
   rw [HE.out.1] at e; cases e
end Go.Proofs.YtjlpaagnajmogaaGreat.PWalk
end
section
namespace Go.Proofs.YtjlpaagnajmogaaGreat.PWalk
open Go.RowKit Go.Proofs.YtjlpaagnajmogaaGreatW.PrintWords Go.Proofs.YtjlpaagnajmogaaGreatW.PrintLast Go.Proofs.YtjlpaagnajmogaaGreatW.PrintMore
set_option linter.unusedVariables false
set_option linter.unusedSimpArgs false
def redpencilref10_Dots.l0 : Nat → List (S35) → Bool → List (S24) → Int → Option ((List (S24)))
 | 0, _, _, _, _ => none
 | k + 1, x0, x1, x5, x6 => if x6 < (x0.length : Int) then (if x1 = true then (if 0 ≤ x6 then (if ((rd_T35 x0 x6).f3) = 0 then (if x5.length < 8796093022208 then (redpencilref10_Dots.l0 k x0 x1 (x5 ++ [(⟨(rd_T35 x0 x6).f0.f0, (rd_T35 x0 x6).f0.f1⟩ : S24)]) (wrap64 (x6 + 1))) else (none)) else (redpencilref10_Dots.l0 k x0 x1 x5 (wrap64 (x6 + 1)))) else (none)) else (if 0 ≤ x6 then (if x5.length < 8796093022208 then (redpencilref10_Dots.l0 k x0 x1 (x5 ++ [(⟨(rd_T35 x0 x6).f0.f0, (rd_T35 x0 x6).f0.f1⟩ : S24)]) (wrap64 (x6 + 1))) else (none)) else (none))) else (some x5)
def redpencilref10_Dots.f (k : Nat) (l0 : List (S35)) (a1 : Bool) : Option ((List (S24))) := redpencilref10_Dots.l0 k l0 a1 ([] : List (S24)) 0
set_option maxHeartbeats 8000000 in
set_option maxRecDepth 100000 in
theorem redpencilref10_Dots.calls (k : Nat) (A0 : Option Addr) (c0 : Nat) (l0 : List (S35)) (a1 : Bool) (r : List (S24)) (w : World) (hr0 : Kd.C k35 w A0 l0.length l0) (hc0 : l0.length ≤ c0) (h : redpencilref10_Dots.f k l0 a1 = some r) :
  Calls Tryz.prog 74 #[.slice A0 l0.length c0, .bool a1] w fun e w' => ∃ v0_ : Value, e = .returned (v0_) ∧ Kd.R k24 24 w' w.heap.size (fun _ => True) v0_ r ∧ Below w.heap.size w w' := by
 have hu24 := Tryz.underlying24
 have HR0 := Aside0.mk hr0
 have HC0 := Aside0.mk hc0
 clear hr0 hc0
 have HB := Aside0.mk (Below.refl w.heap.size w)
 have H : (redpencilref10_Dots.l0 k l0 a1 ([] : List (S24)) 0) = some r := h
 clear h
 have H' := Aside0.mk H
 clear H
 go_enter Tryz.func74, Tryz.ntmps74
 go_wp2
 go_loopg [5, 6] k (fun kq v5 v6 w' => ∃ (x5_1 : List (S24)) (x6_1 : Int), v6 = .int .i64 x6_1 ∧ Aside0 (redpencilref10_Dots.l0 kq l0 a1 x5_1 x6_1 = some r) ∧ Aside0 (kq ≤ k) ∧ Aside0 (Kd.R k24 24 w' w.heap.size (fun _ => True) v5 x5_1) ∧ Aside0 (Below w.heap.size w w'))
 case atStart => exact ⟨(([] : List (S24))), (0), (by first | rfl | (simp; done) | (simp [*]; done)), H', ⟨Nat.le_refl _⟩, ⟨by first | exact Kd.R_nil _ _ _ _ _ | exact Kd.N_nil _ _ _ _ _ | exact Kd.V_nil _ _ _ _ _ | exact Kd.Q_nil _ _ _ _ _ | exact Kd.S_nil _ _ _ _ _⟩, ⟨by repeat (first | (with_reducible first | exact HB.out | apply below_alloc | apply pw_below_drewN | apply below_drew1) | exact HB.out)⟩⟩
 case round =>
  clear H'
  try clear p2
  obtain ⟨x5_1, x6_1, rfl, HA, HK1, HO_5, HB⟩ := hrel
  cases gk with
  | zero => exact absurd HA.out (by simp [redpencilref10_Dots.l0])
  | succ k1 =>
   have H := HA.out
   clear HA
   simp only [redpencilref10_Dots.l0] at H
   by_cases c3 : x6_1 < (l0.length : Int)
   ·
    rw [if_pos c3] at H
    have c3b0 : decide (x6_1 < (l0.length : Int)) = true := decide_eq_true c3
    clear c3
    by_cases c4 : a1 = true
    ·
     subst c4
     have H1 : (if 0 ≤ x6_1 then (if ((rd_T35 l0 x6_1).f3) = 0 then (if x5_1.length < 8796093022208 then (redpencilref10_Dots.l0 k1 l0 true (x5_1 ++ [(⟨(rd_T35 l0 x6_1).f0.f0, (rd_T35 l0 x6_1).f0.f1⟩ : S24)]) (wrap64 (x6_1 + 1))) else (none)) else (redpencilref10_Dots.l0 k1 l0 true x5_1 (wrap64 (x6_1 + 1)))) else (none)) = some r := by rw [if_pos rfl] at H; exact H
     clear H
     have H := H1
     clear H1
     by_cases c5 : 0 ≤ x6_1
     ·
      rw [if_pos c5] at H
      have c5b0 : decide (0 ≤ x6_1) = true := decide_eq_true c5
      clear c5
      by_cases c6 : ((rd_T35 l0 x6_1).f3) = 0
      ·
       rw [if_pos c6] at H
       have c6b0 : (((rd_T35 l0 x6_1).f3) == 0) = true := beq_iff_eq.mpr c6
       have c6b1 : (((rd_T35 l0 x6_1).f3) != 0) = false := bne_eq_false_iff_eq.mpr c6
       clear c6
       by_cases c7 : x5_1.length < 8796093022208
       ·
        rw [if_pos c7] at H
        have LMc7 := Aside0.mk c7
        clear c7
        obtain ⟨y147, hy147⟩ : ∃ y_ : List (S24), y_ = (x5_1 ++ [(⟨(rd_T35 l0 x6_1).f0.f0, (rd_T35 l0 x6_1).f0.f1⟩ : S24)]) := ⟨_, rfl⟩
        replace H : (redpencilref10_Dots.l0 k1 l0 true y147 (wrap64 (x6_1 + 1))) = some r := by first | (rw [hy147]; with_reducible exact H) | (have H2_ := (Option.bind_some _ _).symm.trans H; rw [hy147]; with_reducible exact H2_) | (have H2_ := (Option.bind_some _ _).symm.trans H; with_reducible exact H2_) | with_reducible exact H | (rw [hy147]; exact H) | exact H
        have Ny147 := Aside0.mk hy147
        clear hy147
        have H' := Aside0.mk H
        clear H
        have p145 : 0 ≤ (x6_1 : Int) := of_decide_eq_true (by first | (with_reducible assumption) | assumption)
        have q145 : x6_1 < (l0.length : Int) := of_decide_eq_true (by first | (with_reducible assumption) | assumption)
        obtain ⟨ad145, e145, hx145_0, hx145_1, hx145_2, hx145_3, hx145_4, hx145_5⟩ := at_T35 HR0.out x6_1 p145 q145
        cases e145
        replace hx145_0 := (HB.out.cell (World.block_lt_of_cell? w _ hx145_0)).trans hx145_0
        replace hx145_1 := (HB.out.cell (World.block_lt_of_cell? w _ hx145_1)).trans hx145_1
        replace hx145_2 := (HB.out.cell (World.block_lt_of_cell? w _ hx145_2)).trans hx145_2
        replace hx145_3 := (HB.out.cell (World.block_lt_of_cell? w _ hx145_3)).trans hx145_3
        replace hx145_4 := (HB.out.cell (World.block_lt_of_cell? w _ hx145_4)).trans hx145_4
        replace hx145_5 := (HB.out.cell (World.block_lt_of_cell? w _ hx145_5)).trans hx145_5
        replace p145 := eq_true p145
        replace q145 := eq_true q145
        have p146 : 0 ≤ (x6_1 : Int) := of_decide_eq_true (by first | (with_reducible assumption) | assumption)
        have q146 : x6_1 < (l0.length : Int) := of_decide_eq_true (by first | (with_reducible assumption) | assumption)
        obtain ⟨ad146, e146, hx146_0, hx146_1, hx146_2, hx146_3, hx146_4, hx146_5⟩ := at_T35 HR0.out x6_1 p146 q146
        obtain rfl : ad145 = ad146 := (by injection e146)
        replace hx146_0 := (HB.out.cell (World.block_lt_of_cell? w _ hx146_0)).trans hx146_0
        replace hx146_1 := (HB.out.cell (World.block_lt_of_cell? w _ hx146_1)).trans hx146_1
        replace hx146_2 := (HB.out.cell (World.block_lt_of_cell? w _ hx146_2)).trans hx146_2
        replace hx146_3 := (HB.out.cell (World.block_lt_of_cell? w _ hx146_3)).trans hx146_3
        replace hx146_4 := (HB.out.cell (World.block_lt_of_cell? w _ hx146_4)).trans hx146_4
        replace hx146_5 := (HB.out.cell (World.block_lt_of_cell? w _ hx146_5)).trans hx146_5
        replace p146 := eq_true p146
        replace q146 := eq_true q146
        go_wp2_with (first | ((with_reducible refine gate_builtin (b := .append) (xs := #[.tmp 23, .tmp 29]) rfl ?_); at_builtin; refine Kd.R_append k24 (w0 := w) w.heap.size rfl (.tmp 23) (.tmp 29) 41 24 (.agg #[(.int .i64 0), (.int .i64 0)]) 16 rfl Tryz.underlying41 info24 rfl (by decide) (by omega) u5 x5_1 (⟨(rd_T35 l0 x6_1).f0.f0, (rd_T35 l0 x6_1).f0.f1⟩ : S24) [.int .i64 ((rd_T35 l0 x6_1).f0.f0), .int .i64 ((rd_T35 l0 x6_1).f0.f1)] (fun _ => True) (fun _ => False) rfl rfl ?aP (fun _ hk => hk.elim) ?aF ?aO ?aB ?aS ?aL ?_; (case aP => exact k24_mkM _ _ _ (⟨(rd_T35 l0 x6_1).f0.f0, (rd_T35 l0 x6_1).f0.f1⟩ : S24)); (case aB => exact (by repeat (first | (with_reducible first | exact HB.out | apply below_alloc | apply pw_below_drewN | apply below_drew1) | exact HB.out))); (case aF => exact (fun _ _ => trivial)); (case aO => exact (by (with_reducible repeat (first | apply Kd.R_alloc | apply Kd.R_drewN | apply Kd.R_drew)); exact HO_5.out)); (case aS => exact (below_size (by repeat (first | (with_reducible first | exact HB.out | apply below_alloc | apply pw_below_drewN | apply below_drew1) | exact HB.out)))); (case aL => have := LMc7.out; omega); intro v148 w8 ho hb hg hat; rw [← Ny147.out] at ho; have n0_ := Aside0.mk (hb); have n1_ := Aside0.mk (ho); clear HB; clear HO_5; have HB := n0_; have HO149 := n1_; clear n0_ n1_; clear ho hb hg hat))
        go_roundg k1
        case measure => have := HK1.out; omega
        case rel => exact ⟨(y147), (wrap64 (x6_1 + 1)), (by first | rfl | (simp; done) | (simp [*]; done)), H', ⟨by have := HK1.out; omega⟩, ⟨by (with_reducible repeat (first | apply Kd.R_alloc | apply Kd.R_drewN | apply Kd.R_drew)); exact HO149.out⟩, ⟨by repeat (first | (with_reducible first | exact HB.out | apply below_alloc | apply pw_below_drewN | apply below_drew1) | exact HB.out)⟩⟩
       ·
        rw [if_neg c7] at H
        exact absurd H (by simp)
      ·
       rw [if_neg c6] at H
       have c6b0 : (((rd_T35 l0 x6_1).f3) == 0) = false := beq_eq_false_iff_ne.mpr c6
       have c6b1 : (((rd_T35 l0 x6_1).f3) != 0) = true := bne_iff_ne.mpr c6
       have H' := Aside0.mk H
       clear H
       have p145 : 0 ≤ (x6_1 : Int) := of_decide_eq_true (by first | (with_reducible assumption) | assumption)
       have q145 : x6_1 < (l0.length : Int) := of_decide_eq_true (by first | (with_reducible assumption) | assumption)
       obtain ⟨ad145, e145, hx145_0, hx145_1, hx145_2, hx145_3, hx145_4, hx145_5⟩ := at_T35 HR0.out x6_1 p145 q145
       cases e145
       replace hx145_0 := (HB.out.cell (World.block_lt_of_cell? w _ hx145_0)).trans hx145_0
       replace hx145_1 := (HB.out.cell (World.block_lt_of_cell? w _ hx145_1)).trans hx145_1
       replace hx145_2 := (HB.out.cell (World.block_lt_of_cell? w _ hx145_2)).trans hx145_2
       replace hx145_3 := (HB.out.cell (World.block_lt_of_cell? w _ hx145_3)).trans hx145_3
       replace hx145_4 := (HB.out.cell (World.block_lt_of_cell? w _ hx145_4)).trans hx145_4
       replace hx145_5 := (HB.out.cell (World.block_lt_of_cell? w _ hx145_5)).trans hx145_5
       replace p145 := eq_true p145
       replace q145 := eq_true q145
       go_wp2
       go_roundg k1
       case measure => have := HK1.out; omega
       case rel => exact ⟨(x5_1), (wrap64 (x6_1 + 1)), (by first | rfl | (simp; done) | (simp [*]; done)), H', ⟨by have := HK1.out; omega⟩, ⟨by (with_reducible repeat (first | apply Kd.R_alloc | apply Kd.R_drewN | apply Kd.R_drew)); exact HO_5.out⟩, ⟨by repeat (first | (with_reducible first | exact HB.out | apply below_alloc | apply pw_below_drewN | apply below_drew1) | exact HB.out)⟩⟩
     ·
      rw [if_neg c5] at H
      exact absurd H (by simp)
    ·
     replace c4 := Bool.eq_false_iff.mpr c4
     subst c4
     have H1 : (if 0 ≤ x6_1 then (if x5_1.length < 8796093022208 then (redpencilref10_Dots.l0 k1 l0 false (x5_1 ++ [(⟨(rd_T35 l0 x6_1).f0.f0, (rd_T35 l0 x6_1).f0.f1⟩ : S24)]) (wrap64 (x6_1 + 1))) else (none)) else (none)) = some r := by rw [if_neg (show ¬ (false = true) by decide)] at H; exact H
     clear H
     have H := H1
     clear H1
     by_cases c9 : 0 ≤ x6_1
     ·
      rw [if_pos c9] at H
      have c9b0 : decide (0 ≤ x6_1) = true := decide_eq_true c9
      clear c9
      by_cases c10 : x5_1.length < 8796093022208
      ·
       rw [if_pos c10] at H
       have LMc10 := Aside0.mk c10
       clear c10
       obtain ⟨y151, hy151⟩ : ∃ y_ : List (S24), y_ = (x5_1 ++ [(⟨(rd_T35 l0 x6_1).f0.f0, (rd_T35 l0 x6_1).f0.f1⟩ : S24)]) := ⟨_, rfl⟩
       replace H : (redpencilref10_Dots.l0 k1 l0 false y151 (wrap64 (x6_1 + 1))) = some r := by first | (rw [hy151]; with_reducible exact H) | (have H2_ := (Option.bind_some _ _).symm.trans H; rw [hy151]; with_reducible exact H2_) | (have H2_ := (Option.bind_some _ _).symm.trans H; with_reducible exact H2_) | with_reducible exact H | (rw [hy151]; exact H) | exact H
       have Ny151 := Aside0.mk hy151
       clear hy151
       have H' := Aside0.mk H
       clear H
       have p150 : 0 ≤ (x6_1 : Int) := of_decide_eq_true (by first | (with_reducible assumption) | assumption)
       have q150 : x6_1 < (l0.length : Int) := of_decide_eq_true (by first | (with_reducible assumption) | assumption)
       obtain ⟨ad150, e150, hx150_0, hx150_1, hx150_2, hx150_3, hx150_4, hx150_5⟩ := at_T35 HR0.out x6_1 p150 q150
       cases e150
       replace hx150_0 := (HB.out.cell (World.block_lt_of_cell? w _ hx150_0)).trans hx150_0
       replace hx150_1 := (HB.out.cell (World.block_lt_of_cell? w _ hx150_1)).trans hx150_1
       replace hx150_2 := (HB.out.cell (World.block_lt_of_cell? w _ hx150_2)).trans hx150_2
       replace hx150_3 := (HB.out.cell (World.block_lt_of_cell? w _ hx150_3)).trans hx150_3
       replace hx150_4 := (HB.out.cell (World.block_lt_of_cell? w _ hx150_4)).trans hx150_4
       replace hx150_5 := (HB.out.cell (World.block_lt_of_cell? w _ hx150_5)).trans hx150_5
       replace p150 := eq_true p150
       replace q150 := eq_true q150
       go_wp2_with (first | ((with_reducible refine gate_builtin (b := .append) (xs := #[.tmp 23, .tmp 29]) rfl ?_); at_builtin; refine Kd.R_append k24 (w0 := w) w.heap.size rfl (.tmp 23) (.tmp 29) 41 24 (.agg #[(.int .i64 0), (.int .i64 0)]) 16 rfl Tryz.underlying41 info24 rfl (by decide) (by omega) u5 x5_1 (⟨(rd_T35 l0 x6_1).f0.f0, (rd_T35 l0 x6_1).f0.f1⟩ : S24) [.int .i64 ((rd_T35 l0 x6_1).f0.f0), .int .i64 ((rd_T35 l0 x6_1).f0.f1)] (fun _ => True) (fun _ => False) rfl rfl ?aP (fun _ hk => hk.elim) ?aF ?aO ?aB ?aS ?aL ?_; (case aP => exact k24_mkM _ _ _ (⟨(rd_T35 l0 x6_1).f0.f0, (rd_T35 l0 x6_1).f0.f1⟩ : S24)); (case aB => exact (by repeat (first | (with_reducible first | exact HB.out | apply below_alloc | apply pw_below_drewN | apply below_drew1) | exact HB.out))); (case aF => exact (fun _ _ => trivial)); (case aO => exact (by (with_reducible repeat (first | apply Kd.R_alloc | apply Kd.R_drewN | apply Kd.R_drew)); exact HO_5.out)); (case aS => exact (below_size (by repeat (first | (with_reducible first | exact HB.out | apply below_alloc | apply pw_below_drewN | apply below_drew1) | exact HB.out)))); (case aL => have := LMc10.out; omega); intro v152 w11 ho hb hg hat; rw [← Ny151.out] at ho; have n0_ := Aside0.mk (hb); have n1_ := Aside0.mk (ho); clear HB; clear HO_5; have HB := n0_; have HO153 := n1_; clear n0_ n1_; clear ho hb hg hat))
       go_roundg k1
       case measure => have := HK1.out; omega
       case rel => exact ⟨(y151), (wrap64 (x6_1 + 1)), (by first | rfl | (simp; done) | (simp [*]; done)), H', ⟨by have := HK1.out; omega⟩, ⟨by (with_reducible repeat (first | apply Kd.R_alloc | apply Kd.R_drewN | apply Kd.R_drew)); exact HO153.out⟩, ⟨by repeat (first | (with_reducible first | exact HB.out | apply below_alloc | apply pw_below_drewN | apply below_drew1) | exact HB.out)⟩⟩
      ·
       rw [if_neg c10] at H
       exact absurd H (by simp)
     ·
      rw [if_neg c9] at H
      exact absurd H (by simp)
   ·
    rw [if_neg c3] at H
    have c3b0 : decide (x6_1 < (l0.length : Int)) = false := decide_eq_false c3
    clear c3
    obtain rfl := Option.some.inj H
    go_wp2
    go_ret
    exact ⟨_, by first | rfl | (simp [errW_none, errW_some] <;> rfl) | (simp [*, errW_none, errW_some] <;> rfl), by (with_reducible repeat (first | apply Kd.R_alloc | apply Kd.R_drewN | apply Kd.R_drew)); exact HO_5.out, by repeat (first | (with_reducible first | exact HB.out | apply below_alloc | apply pw_below_drewN | apply below_drew1) | exact HB.out)⟩
def redpencillaw11_names.f (k : Nat) (l0 : List (S35)) : Option ((List (S24))) := (redpencilref10_Dots.f k l0 false).bind fun t154 => (some t154)
set_option maxHeartbeats 8000000 in
set_option maxRecDepth 100000 in
theorem redpencillaw11_names.calls (k : Nat) (A0 : Option Addr) (c0 : Nat) (l0 : List (S35)) (r : List (S24)) (w : World) (hr0 : Kd.C k35 w A0 l0.length l0) (hc0 : l0.length ≤ c0) (h : redpencillaw11_names.f k l0 = some r) :
  Calls Tryz.prog 28 #[.slice A0 l0.length c0] w fun e w' => ∃ v0_ : Value, e = .returned (v0_) ∧ Kd.R k24 24 w' w.heap.size (fun _ => True) v0_ r ∧ Below w.heap.size w w' := by
 have HR0 := Aside0.mk hr0
 have HC0 := Aside0.mk hc0
 clear hr0 hc0
 have HB := Aside0.mk (Below.refl w.heap.size w)
 have H : ((redpencilref10_Dots.f k l0 false).bind fun t154 => (some t154)) = some r := h
 clear h
 replace H := Option.bind_eq_some_iff.mp H
 obtain ⟨t154, A20, H⟩ := H
 replace H : (some t154) = some r := H
 have A2 := Aside0.mk A20
 clear A20
 obtain rfl := Option.some.inj H
 go_enter Tryz.func28, Tryz.ntmps28
 go_wp2_with (first | ((with_reducible refine gate_callee (f := 74) rfl ?_); refine goesL_ (some 4) rfl rfl Tryz.func74 (by kernel_rfl) rfl #[.slice A0 l0.length c0, .bool false] rfl (by (try simp only [List.map_toArray, List.map_cons, List.map_nil]); first | done | rfl | (simp only [List.length_drop, List.length_take]; rfl)) ?_; (with_reducible refine (redpencilref10_Dots.calls k _ _ l0 false t154 _ ?side1 ?side2 A2.out).mono ?_); (case side1 => repeat (first | exact HR0.out | (with_reducible refine Kd.C_alloc ?_ _) | (with_reducible refine Kd.C_drewN ?_ _) | (with_reducible refine Kd.C_drew ?_))); (case side2 => exact HC0.out); rintro e w3 ⟨v155, rfl, ho0, hb⟩; refine ⟨_, rfl, ?_⟩; have n0_ := Aside0.mk (Kd.R_lower ho0 (below_size (by repeat (first | (with_reducible first | exact HB.out | apply below_alloc | apply pw_below_drewN | apply below_drew1) | exact HB.out)))); have n1_ := Aside0.mk (below_step (by repeat (first | (with_reducible first | exact HB.out | apply below_alloc | apply pw_below_drewN | apply below_drew1) | exact HB.out)) hb); clear HB; have HO156 := n0_; have HB := n1_; clear n0_ n1_; (try clear hb); (try clear hb2); (try clear hk); (try clear hi); (try clear ho0)))
 go_ret
 exact ⟨_, by first | rfl | (simp [errW_none, errW_some] <;> rfl) | (simp [*, errW_none, errW_some] <;> rfl), by (with_reducible repeat (first | apply Kd.R_alloc | apply Kd.R_drewN | apply Kd.R_drew)); exact HO156.out, by repeat (first | (with_reducible first | exact HB.out | apply below_alloc | apply pw_below_drewN | apply below_drew1) | exact HB.out)⟩
def redpencillaw11_at.f (a0 : Int) (a1 : Int) : Option (Int × Int) := some (a0, a1)
set_option maxHeartbeats 8000000 in
set_option maxRecDepth 100000 in
theorem redpencillaw11_at.calls (a0 : Int) (a1 : Int) (r1 : Int) (r2 : Int) (w : World) (h : redpencillaw11_at.f a0 a1 = some (r1, r2)) :
  Calls Tryz.prog 32 #[.int .i64 a0, .int .i64 a1] w fun e w' => e = .returned (.agg #[.int .i64 r1, .int .i64 r2]) ∧ Below w.heap.size w w' := by
 have hu24 := Tryz.underlying24
 have HB := Aside0.mk (Below.refl w.heap.size w)
 have H : (some (a0, a1)) = some (r1, r2) := h
 clear h
 simp only [Option.some.injEq, Prod.mk.injEq] at H
 obtain ⟨rfl, rfl⟩ := H
 go_enter Tryz.func32, Tryz.ntmps32
 go_wp2_with (first | ((with_reducible refine gate_dst (N := 4) rfl ?_); refine box_event ?hg (N := 4) ?hd (cs := #[.int .i64 0, .int .i64 0]) (t := 24) ?hr ?_; (case hd => rfl); (case hg => rfl); (case hr => first | (go_simp; done) | (go_simp; rfl)); intro gb157 hg w3 hbox hb; have n0_ := Aside0.mk (below_step (by repeat (first | (with_reducible first | exact HB.out | apply below_alloc | apply pw_below_drewN | apply below_drew1) | exact HB.out)) hb); have n1_ := Aside0.mk (hbox); have n2_ := Aside0.mk ((by rw [hg]; exact (below_size (by repeat (first | (with_reducible first | exact HB.out | apply below_alloc | apply pw_below_drewN | apply below_drew1) | exact HB.out))) : w.heap.size ≤ gb157)); have n3_ := Aside0.mk ((by rw [hg]; exact (below_size (by repeat (first | (with_reducible first | exact HB.out | apply below_alloc | apply pw_below_drewN | apply below_drew1) | exact HB.out))) : w.heap.size ≤ gb157)); clear HB; have HB := n0_; have BK157 := n1_; have GW157 := n2_; have GE157 := n3_; clear n0_ n1_ n2_ n3_; clear hb hbox hg; have hcz4_0 : w3.cell? ⟨gb157, 0, none⟩ = some (.int .i64 0) := (blk_cell BK157.out 0).trans rfl; have hcz4_1 : w3.cell? ⟨gb157, 1, none⟩ = some (.int .i64 0) := (blk_cell BK157.out 1).trans rfl; have hfz4_0 := blk_frozen BK157.out 0; have hfz4_1 := blk_frozen BK157.out 1))
 refine bodyPost_ret (results_cell_row rfl _ _ gb157 24 #[.int .i64 a0, .int .i64 a1] (0, 0) _ rfl (by (with_reducible repeat (first | refine blk_drewN ?_ _ | refine blk_drew ?_ | refine blk_alloc ?_ _)); refine blk_put (cs := #[.int .i64 a0, .int .i64 0]) ?_ 1 _ rfl; (with_reducible repeat (first | refine blk_drewN ?_ _ | refine blk_drew ?_ | refine blk_alloc ?_ _)); refine blk_put (cs := #[.int .i64 0, .int .i64 0]) ?_ 0 _ rfl; (with_reducible repeat (first | refine blk_drewN ?_ _ | refine blk_drew ?_ | refine blk_alloc ?_ _)); exact BK157.out) Tryz.underlying24 rfl (by kernel_rfl)) rfl ?_
 exact ⟨by first | rfl | (simp [errW_none, errW_some] <;> rfl) | (simp [*, errW_none, errW_some] <;> rfl), by repeat (first | (with_reducible first | exact HB.out | apply below_alloc | apply pw_below_drewN | apply below_drew1 | refine below_set ?_ GE157.out) | exact HB.out)⟩
end Go.Proofs.YtjlpaagnajmogaaGreat.PWalk
end
