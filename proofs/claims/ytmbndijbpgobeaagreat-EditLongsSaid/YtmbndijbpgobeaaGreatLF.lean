/-
  The law EditLongs returns true for every number and every rune, and leaves its input as it was: as many runes as may be inserted and deleted at once, and one more. Part 6 of 12.
-/
import Derived.Test.YtmbndijbpgobeaaGreatLE
import Derived.Sort.LoopGhostIn
import Derived.Sort.QuietTacIn
import Derived.OrdersIn
section
namespace Go.ListRange
open Go.RowKit
variable {F : Fence} {n : Nat} {P : Program} {α : Type}
/-- Nothing below b, and of the others no cells but those of own types, may change; the world may grow. -/
structure Mv (own : Nat → Prop) (b : Nat) (A B : World) : Prop where
 os : B.os = A.os
 tape : B.tape = A.tape
 output : B.output = A.output
 size : A.heap.size ≤ B.heap.size
 block : ∀ i, i < A.heap.size → (i < b ∨ ∀ c t, A.heap[i]? = some (.cells c t (0, 0)) → ¬ own t) → B.heap[i]? = A.heap[i]?
theorem Mv.trans {own : Nat → Prop} {b : Nat} {A B C : World} (h : Mv own b A B) (k : Mv own b B C) : Mv own b A C :=
 ⟨k.os.trans h.os, k.tape.trans h.tape, k.output.trans h.output, Nat.le_trans h.size k.size, fun i hi hc => by
  have e := h.block i hi hc
  exact (k.block i (Nat.lt_of_lt_of_le hi h.size) (hc.imp_right fun hc c t hb => hc c t (e ▸ hb))).trans e⟩
theorem Mv.mono {own : Nat → Prop} {b b' : Nat} {A B : World} (h : Mv own b A B) (hb : b' ≤ b) : Mv own b' A B :=
 ⟨h.os, h.tape, h.output, h.size, fun i hi hc => h.block i hi (hc.imp_left fun h => Nat.lt_of_lt_of_le h hb)⟩
theorem Mv.below {own : Nat → Prop} {b : Nat} {A B : World} (h : Below A.heap.size A B) : Mv own b A B := ⟨h.os, h.tape, h.output, h.size, fun i hi _ => h.block i hi⟩
theorem Mv.far {own : Nat → Prop} {b : Nat} {A B : World} (h : Mv own b A B) {i : Nat} {c : Array Value} {t : Nat} (hi : A.heap[i]? = some (.cells c t (0, 0))) (ht : ¬ own t) : B.heap[i]? = some (.cells c t (0, 0)) :=
 (h.block i (Array.getElem?_eq_some_iff.1 hi).1 (.inr fun c' t' hc => by rw [hi] at hc; cases hc; exact ht)).trans hi
theorem Mv.on {own : Nat → Prop} {b : Nat} {w A B : World} (h : Mv own b A B) (hw : Below w.heap.size w A) (hb : w.heap.size ≤ b) : Below w.heap.size w B :=
 ⟨h.os.trans hw.os, h.tape.trans hw.tape, h.output.trans hw.output, Nat.le_trans hw.size h.size, fun k hk => (h.block k (Nat.lt_of_lt_of_le hk hw.size) (.inl (Nat.lt_of_lt_of_le hk hb))).trans (hw.block k hk)⟩
theorem Book.moved {d : Nat} {r : Loop} {W V : World} {own : Nat → Prop} {b : Nat} (h : Book d r W) (hm : Mv own b W V) : Book d r V :=
 ⟨(hm.block _ h.lt (.inr fun c t hc => by rw [h.loop] at hc; cases hc)).trans h.loop, (hm.block _ (Nat.lt_trans (Nat.lt_succ_self _) h.lt) (.inr fun c t hc => by rw [h.mark] at hc; cases hc)).trans h.mark⟩
/-- The iterator g calls yield with the elements of L, one after the other, until one round says false; between the rounds it may change cells of its own. -/
def Moves (F : Fence) (n : Nat) (P : Program) (g : Nat) (lb : Array Value) (encs : α → Array Value) (Kp : World → World → Prop) (own : Nat → Prop) (L : List α) (w : World) : Prop :=
 ∀ (l : Nat) (J Jx : Nat → World → Prop) (W : World), Below w.heap.size w W → (∀ k A B, Mv own W.heap.size A B → J k A → J k B) → (∀ k A B, Mv own W.heap.size A B → Jx k A → Jx k B) →
  (∀ k x V, L[k]? = some x → J k V → YieldAt F (n - 1) P l (encs x) V fun e V' =>
   (e = .returned (.bool true) ∧ J (k + 1) V' ∧ Kp V V') ∨ (e = .returned (.bool false) ∧ Jx (k + 1) V')) →
  J 0 W → CallsIn F n P g (#[.func (.yield l) #[] #[]] ++ lb) W fun e V => (∃ v, e = .returned v) ∧ (J L.length V ∨ ∃ k, k ≤ L.length ∧ Jx k V)
theorem wpIn_move {g : Operand} {ps : Array Tmp} {assign body : Code} {Q : Exit → Act → World → Prop} {a : Act} {w : World}
  (hro : F.round = none) (h1 : 1 ≤ n) {gf : Nat} {lb : Array Value} (hg : a.eval g = .func (.func gf) #[] lb) (hFg : F.fn gf) (eg : ∀ args w, (callFunc gf args).run P w = .ok (.enter gf args) w)
  {encs : α → Array Value} {Kp : World → World → Prop} {L : List α} {w0 : World} (own : Nat → Prop) (hseq : Moves F (n - 1) P gf lb encs Kp own L w0)
  (hKt : ∀ {A B C : World}, Kp A B → Kp B C → Kp A C) (hKb : ∀ (W : World) (l : Nat) (o o' : Obj), w.heap.size ≤ l → W.heap[l]? = some o → o.isCells = false → o.isWalk = false → Kp W (W.putObj l o')) (hb0 : Below w0.heap.size w0 w) (hps : ∀ x, (encs x).size = ps.size)
  (I : Nat → World → Prop) (Ix : Code → Nat → World → Prop) (hI : OwnFrom w.heap.size I) (hIx : ∀ c, OwnFrom w.heap.size (Ix c)) (hIm : ∀ k A B, Mv own w.heap.size A B → I k A → I k B) (hIxm : ∀ c k A B, Mv own w.heap.size A B → Ix c k A → Ix c k B) (h0 : I 0 w) (Ax : α → Act → World → Prop) (hAx : ∀ x a', OwnFrom w.heap.size (fun (_ : Unit) W => Ax x a' W))
  (hassign : ∀ (l k : Nat) (x : α) (W : World) (K : Act → World → Prop), L[k]? = some x → I k W → (∀ a' V, KeepsFrom w.heap.size W V → Kp W V → I k V → Ax x a' V → K a' V) →
   assign.wpIn (F.inRound l) (n - 1 - 1) P (Exit.then K (fun _ _ _ => False)) { tmps := (ps.zip (encs x)).foldl (fun t (p, v) => t.setIfInBounds p v) a.tmps, defers := [] } W)
  (hbody : ∀ (l k : Nat) (x : α) (a' : Act) (W : World), L[k]? = some x → w.heap.size ≤ l → (∃ r, W.heap[l]? = some (.loop r)) → I k W → Ax x a' W → body.wpIn (F.inRound l) (n - 1 - 1) P (Post w.heap.size Kp I Ix k W) a' W)
  (hdone : ∀ (D : Nat) (W : World), w.heap.size ≤ D → I L.length W → W.heap[D]? = some (.deferred (some [])) → Q .normal { a with defers := { target := .collected D, args := #[] } :: a.defers } W)
  (hstop : ∀ (D : Nat) (c : Code) (k : Nat) (W : World), w.heap.size ≤ D → k ≤ L.length → Ix c k W → W.heap[D]? = some (.deferred (some [])) → c.wpIn F n P Q { a with defers := { target := .collected D, args := #[] } :: a.defers } W) :
  (Code.rangeFunc g ps assign body).wpIn F n P Q a w := by
 refine wpIn_rangeFunc ?_
 intro fn hfn
 rw [hro]
 obtain ⟨d, hd⟩ : ∃ d, d = w.heap.size := ⟨_, rfl⟩
 obtain ⟨R, hR⟩ : ∃ R : LoopState → Option Code → Loop, R = fun s j => { state := s, pending := j, fn, tmps := a.tmps, params := ps, assign, body, defers := d } := ⟨_, rfl⟩
 have hstart := run_enterLoop_outer (P := P) (w := w) fn a.tmps ps assign body
 have hB : Book d (R .ready none) ((w.alloc (.deferred (some []))).alloc (.loop (R .ready none))) := by
  rw [hd]
  constructor
  ·
   have := World.alloc_heap_new (w.alloc (.deferred (some []))) (.loop (R .ready none)); rwa [World.size_alloc] at this
  ·
   exact (Below.heap_alloc _ _ _ (by simp)).trans (World.alloc_heap_new w _)
 have hI1 : I 0 ((w.alloc (.deferred (some []))).alloc (.loop (R .ready none))) := hI.alloc _ (hI.alloc _ h0)
 have hb1 : Below w0.heap.size w0 ((w.alloc (.deferred (some []))).alloc (.loop (R .ready none))) := hb0.trans ((((Below.refl _ w).alloc (Nat.le_refl _) _).alloc (by simp) _).mono hb0.size)
 have hsz : d ≤ ((w.alloc (.deferred (some []))).alloc (.loop (R .ready none))).heap.size := by simp; omega
 have hR0 : Loop.mk .ready none fn a.tmps ps assign body w.heap.size = R .ready none := by rw [hR, hd]
 rw [hR0] at hstart
 generalize (w.alloc (.deferred (some []))).alloc (.loop (R .ready none)) = W1 at *
 subst hd
 refine ⟨w.heap.size + 1, [{ target := .collected w.heap.size, args := #[] }], W1, { target := .fn (.func gf) lb, args := #[.func (.yield (w.heap.size + 1)) #[] #[]] }, W1, gf, #[.func (.yield (w.heap.size + 1)) #[] #[]] ++ lb, W1, hstart, ?_, ?_, ?_, fun _ => h1, ?_⟩
 ·
  simp only [resolve, hg]; simp [go_sem]
 ·
  intro f' hf'; simp [Target.leads] at hf'; subst hf'; exact hFg
 ·
  simp [invoke, go_sem, eg]
 have hend : ∀ (j : Option Code) (s : LoopState) (q : Option Code) (V : World), Book w.heap.size (R s q) V → (Instr.endRound (w.heap.size + 1) j).run P V = .ok (.bool j.isNone) (V.putObj (w.heap.size + 1) (.loop (R (if j.isNone then .ready else .done) j))) := by
  intro j s q V h
  have := run_endRound (P := P) j h.loop
  rw [hR] at this ⊢
  exact this
 have hshut : ∀ (s : LoopState) (j : Option Code) (V : World), s ≠ .busy → Book w.heap.size (R s j) V → (Instr.endLoop (w.heap.size + 1)).run P V = .ok j (V.putObj (w.heap.size + 1) (.loop (R .exhausted j))) := by
  intro s j V hs h
  have := run_endLoop (P := P) h.loop (by rw [hR]; exact hs)
  rw [hR] at this ⊢
  exact this
 refine (hseq (w.heap.size + 1) (fun k V => I k V ∧ Book w.heap.size (R .ready none) V) (fun k V => ∃ c, Ix c k V ∧ Book w.heap.size (R .done (some c)) V) W1 hb1
  (fun k A B hm hs => ⟨hIm k A B (hm.mono hsz) hs.1, hs.2.moved hm⟩)
  (fun k A B hm hs => hs.imp fun c hc => ⟨hIxm c k A B (hm.mono hsz) hc.1, hc.2.moved hm⟩)
  ?_ ⟨hI1, hB⟩).mono ?_
 ·
  rintro k x W hx ⟨hi, hbk⟩
  have hy := run_yield (P := P) (args := encs x) hbk.loop (by rw [hR]; exact hps x)
  have hy' : (Instr.yield (w.heap.size + 1) (encs x)).run P W = .ok (.round (w.heap.size + 1) fn ((ps.zip (encs x)).foldl (fun t (p, v) => t.setIfInBounds p v) a.tmps) assign body) W := by rw [hy, hR]
  refine ⟨fn, _, assign, body, hy', roundIn_of_wpIn hfn (hassign _ k x W _ hx hi ?_)⟩
  intro a' V hkf hkp hi2 hax
  have hbV := hbk.keeps hkf
  have hbusy : (Instr.beginRound (w.heap.size + 1)).run P V = .ok () (V.putObj (w.heap.size + 1) (.loop (R .busy none))) := by
   have := run_beginRound (P := P) hbV.loop (by rw [hR])
   rw [this, hR]
  refine ⟨_, hbusy, ?_⟩
  have hb2 := hbV.put (R .busy none)
  have hk2 : Kp V (V.putObj (w.heap.size + 1) (.loop (R .busy none))) := hKb _ _ _ _ (by omega) hbV.loop rfl rfl
  refine wpIn_mono (hbody _ k x a' _ hx (by omega) ⟨_, hb2.loop⟩ (hI.putObj _ hi2 (by omega) hbV.loop rfl) ((hAx x a').putObj (s := ()) _ hax (by omega) hbV.loop rfl)) ?_
  have hout : ∀ (c : Code) (V3 : World), KeepsFrom w.heap.size (V.putObj (w.heap.size + 1) (.loop (R .busy none))) V3 → Ix c (k + 1) V3 →
    (Instr.endRound (w.heap.size + 1) (some c)).run P V3 = .ok (.bool false) (V3.putObj (w.heap.size + 1) (.loop (R .done (some c)))) ∧ ∃ c', Ix c' (k + 1) (V3.putObj (w.heap.size + 1) (.loop (R .done (some c)))) ∧ Book w.heap.size (R .done (some c')) (V3.putObj (w.heap.size + 1) (.loop (R .done (some c)))) := by
   intro c V3 h3 hx3
   have hb3 := hb2.keeps h3
   exact ⟨hend (some c) _ _ V3 hb3, c, (hIx c).putObj _ hx3 (by omega) hb3.loop rfl, hb3.put _⟩
  rintro e a3 V3 hp
  cases e with
  | normal =>
   obtain ⟨h3, hp3, hi3⟩ := hp
   have hb3 := hb2.keeps h3
   exact ⟨_, _, hend none _ _ V3 hb3, .inl ⟨rfl, ⟨hI.putObj _ hi3 (by omega) hb3.loop rfl, hb3.put _⟩, hKt hkp (hKt (hKt hk2 hp3) (hKb _ _ _ _ (by omega) hb3.loop rfl rfl))⟩⟩
  | ret => exact ⟨_, _, (hout .ret V3 hp.1 hp.2).1, .inr ⟨rfl, (hout .ret V3 hp.1 hp.2).2⟩⟩
  | exit id => exact ⟨_, _, (hout (.exit id) V3 hp.1 hp.2).1, .inr ⟨rfl, (hout (.exit id) V3 hp.1 hp.2).2⟩⟩
  | goto t => exact ⟨_, _, (hout (.goto t) V3 hp.1 hp.2).1, .inr ⟨rfl, (hout (.goto t) V3 hp.1 hp.2).2⟩⟩
  | panic ch => exact hp.elim
  | outgrown => exact hp.elim
 ·
  rintro e V ⟨⟨v, rfl⟩, (⟨hi, hbk⟩ | ⟨k, hk, c, hi, hbk⟩)⟩
  ·
   exact ⟨none, _, hshut .ready none V (by simp) hbk, hdone _ _ (Nat.le_refl _) (hI.putObj _ hi (by omega) hbk.loop rfl) ((World.putObj_heap_other (by omega)).trans hbk.mark)⟩
  ·
   exact ⟨some c, _, hshut .done (some c) V (by simp) hbk, hstop _ c k _ (Nat.le_refl _) hk ((hIx c).putObj _ hi (by omega) hbk.loop rfl) ((World.putObj_heap_other (by omega)).trans hbk.mark)⟩
end Go.ListRange
end
section
namespace Go.Proofs.YtmbndijbpgobeaaGreat.PWalk
open Go.RowKit Go.Proofs.YtmbndijbpgobeaaGreatW.PrintWords Go.Proofs.YtmbndijbpgobeaaGreatW.PrintLast Go.Proofs.YtmbndijbpgobeaaGreatW.PrintMore
set_option linter.unusedVariables false
set_option linter.unusedSimpArgs false
open Go.Shelf
attribute [local go_sem] Oper.semAt_some
set_option maxRecDepth 100000 in
set_option maxHeartbeats 1000000 in
theorem bkNodes_in (n lp Bs n₀ : Nat) (E : Nat → Prop) (A : Option Addr) (c0 : Nat) (xs : List Node) (hn : 1 ≤ n) (hm : xs.length ≤ 1000000) (J Jx : Nat → World → Prop)
  (hY : ∀ k x W, (bk xs)[k]? = some x → J k W → YieldAt Fence.wide (n - 1) Tryz.prog lp #[.int .i64 ((x : Nat × Node).1 : Int), vNode x.2] W fun e W' =>
   (e = .returned (.bool true) ∧ J (k + 1) W' ∧ KpE n₀ E W W') ∨ (e = .returned (.bool false) ∧ Jx (k + 1) W'))
  (W : World) (hBs : W.cell? ⟨Bs, 0, none⟩ = some (.slice A xs.length c0)) (hB0 : Bs < n₀) (hBE : ¬ E Bs) (hA : ∀ ad, A = some ad → 0 < xs.length → ad.block < n₀ ∧ ¬ E ad.block) (hr : Kd.C k53 W A xs.length xs) (h0 : J 0 W) :
  CallsIn Fence.wide n Tryz.prog 116 #[.func (.yield lp) #[] #[], .pointer (some ⟨Bs, 0, none⟩)] W fun e W' => (∃ v, e = .returned v) ∧
   (J (bk xs).length W' ∨ ∃ k, k ≤ (bk xs).length ∧ Jx k W') := by
 have hu := Tryz.underlying53
 have HY := Aside0.mk hY
 have HR := Aside0.mk hr
 have HA := Aside0.mk hA
 have HE := Aside0.mk hBE
 clear hY hr hA hBE
 refine callsIn_of_wp Tryz.func116 rfl trivial ?_ rfl
 simp only [Tryz.ntmps116, List.size_toArray, List.length_cons, List.length_nil, Nat.reduceAdd, Nat.reduceSub, Array.replicate_succ, Array.replicate_zero, List.push_toArray, List.append_toArray, List.nil_append, List.cons_append]
 gi_wp2
 gi_loopw [3] (fun i wr => ∃ k : Nat, k ≤ xs.length ∧ i = .int .i64 ((xs.length : Int) - 1 - k) ∧ Aside0 (J k wr) ∧ Aside0 (KpE n₀ E W wr)) (fun i _ => (intOf i + 1).toNat)
 case atStart => exact ⟨0, Nat.zero_le _, by simp, ⟨h0⟩, ⟨KpE.refl _ _ _⟩⟩
 case round =>
  obtain ⟨k, hk, rfl, hJ, hK⟩ := hrel
  have hs : wr.cell? ⟨Bs, 0, none⟩ = some (.slice A xs.length c0) := hK.out.cell (p := ⟨Bs, 0, none⟩) hB0 HE.out hBs
  by_cases hlt : k < xs.length
  ·
   obtain ⟨x, hx⟩ : ∃ x, Aside0 (xs[xs.length - 1 - k]? = some x) := ⟨_, ⟨List.getElem?_eq_getElem (by omega)⟩⟩
   obtain ⟨ad, e, g0, g1, g2, g3, g4, g5⟩ := node_at HR.out (Below.refl _ _) _ x hx.out
   subst e
   obtain ⟨ha, hae⟩ := HA.out ad rfl (by omega)
   have hbl : (ad.add ((xs.length - 1 - k) * 6)).block = ad.block := by unfold Addr.add; split <;> rfl
   replace g0 := hK.out.cell (p := ad.add ((xs.length - 1 - k) * 6)) (by rw [hbl]; exact ha) (by rw [hbl]; exact hae) g0
   replace g1 := hK.out.cell (p := ⟨_, _, none⟩) (by simp only [hbl]; exact ha) (by simp only [hbl]; exact hae) g1
   replace g2 := hK.out.cell (p := ⟨_, _, none⟩) (by simp only [hbl]; exact ha) (by simp only [hbl]; exact hae) g2
   replace g3 := hK.out.cell (p := ⟨_, _, none⟩) (by simp only [hbl]; exact ha) (by simp only [hbl]; exact hae) g3
   replace g4 := hK.out.cell (p := ⟨_, _, none⟩) (by simp only [hbl]; exact ha) (by simp only [hbl]; exact hae) g4
   replace g5 := hK.out.cell (p := ⟨_, _, none⟩) (by simp only [hbl]; exact ha) (by simp only [hbl]; exact hae) g5
   clear hbl hae ha
   have hx' : x = xs[xs.length - 1 - k]'(by omega) := by have := hx.out; rw [List.getElem?_eq_getElem (by omega)] at this; exact (Option.some.inj this).symm
   have HT : Aside0 ((bk xs)[k]? = some (xs.length - 1 - k, x)) := ⟨by rw [bk_get xs k hlt, hx']⟩
   clear hx'
   have hi : ((xs.length : Int) - 1 - k) = ((xs.length - 1 - k : Nat) : Int) := by omega
   rw [hi]
   obtain ⟨j, hj⟩ : ∃ j, Aside0 (j = xs.length - 1 - k) := ⟨_, ⟨rfl⟩⟩
   rw [← hj.out] at g0 g1 g2 g3 g4 g5 ⊢
   have hjl : j < xs.length := by rw [hj.out]; omega
   obtain ⟨fn, tmps, assign, body, hy, hR⟩ := HY.out k (j, x) wr (by rw [hj.out]; exact HT.out) hJ.out
   dsimp only at hy
   clear hi
   gi_wp2
   refine hR.mono ?_
   rintro e W3 (⟨rfl, hJ3, hk3⟩ | ⟨rfl, hJx3⟩)
   ·
    gi_wp2
    go_roundw
    case rel => exact ⟨k + 1, by omega, by rw [hj.out]; (try congr 1); (try omega), ⟨hJ3⟩, ⟨hK.out.trans hk3⟩⟩
    case measure => simp [intOf] <;> omega
   ·
    gi_wp2
    refine bodyPost_ret (results_none rfl _ _ _) rfl ?_
    exact ⟨⟨_, rfl⟩, .inr ⟨k + 1, by rw [bk_length]; omega, hJx3⟩⟩
  ·
   obtain rfl : k = xs.length := by omega
   have hi : ((xs.length : Int) - 1 - xs.length) = -1 := by omega
   rw [hi]
   clear hi
   gi_wp2
   go_end0
   exact ⟨⟨_, rfl⟩, .inl (by rw [bk_length]; exact hJ.out)⟩
def stepCells (p : Nat × Node) : List Value := nodeCells p.2 ++ [.int .i64 p.1]
def stepsOf (l : List (Nat × Node)) : List Value := l.flatMap stepCells
theorem stepCells_length (p : Nat × Node) : (stepCells p).length = 7 := rfl
theorem stepsOf_length (l : List (Nat × Node)) : (stepsOf l).length = l.length * 7 := by
 induction l with
 | nil => rfl
 | cons x l ih => rw [stepsOf, List.flatMap_cons, List.length_append, ← stepsOf, ih, stepCells_length]; simp; omega
theorem stepsOf_append (l m : List (Nat × Node)) : stepsOf (l ++ m) = stepsOf l ++ stepsOf m := by simp [stepsOf]
theorem stepsOf_one (p : Nat × Node) : stepsOf [p] = stepCells p := by simp [stepsOf]
theorem stepCells_one (p : Nat × Node) : ∀ u ∈ stepCells p, u.oneCell' = true := by
 intro u hu
 simp [stepCells, nodeCells] at hu
 rcases hu with rfl | rfl | rfl | rfl | rfl | rfl | rfl <;> rfl
/-- The row of the steps, the one that comes next at its end. -/
def Todo (W : World) (base : Nat) (u : Value) (S : List (Nat × Node)) : Prop := W.ownsRow base 166 7 u S.length (stepsOf S)
theorem Todo.nil (W : World) (base : Nat) : Todo W base (.slice none 0 0) [] := World.ownsRow_nil _ _ _ _
theorem Todo.keep {W V : World} {base : Nat} {u : Value} {S : List (Nat × Node)} (h : Todo W base u S) (hk : ∀ g, u.ownBlock = some g → V.heap[g]? = W.heap[g]?) : Todo V base u S := ownsRow_keep h hk
theorem Todo.block {W : World} {base : Nat} {u : Value} {S : List (Nat × Node)} (h : Todo W base u S) {g : Nat} (hg : u.ownBlock = some g) : base ≤ g ∧ ∃ cur, W.heap[g]? = some (.cells cur 166 (0, 0)) := by
 rcases h.2 with ⟨rfl, _⟩ | ⟨g', c, cur, rfl, hb, hcur, _⟩
 ·
  cases hg
 ·
  cases hg; exact ⟨hb, cur, hcur⟩
theorem Todo.below {W V : World} {base : Nat} {u : Value} {S : List (Nat × Node)} (h : Todo W base u S) (hb : Below W.heap.size W V) : Todo V base u S :=
 h.keep fun g hg => hb.block g (blk_lt (h.block hg).2.choose_spec)
theorem Todo.slice {W : World} {base : Nat} {u : Value} {S : List (Nat × Node)} (h : Todo W base u S) : ∃ A c, u = .slice A S.length c := ownsRow_slice h
theorem row_pop {w : World} {base : Nat} {e : TypeId} {size g cap n : Nat} {xs last : List Value} (hx : xs.length = n * size)
  (h : w.ownsRow base e size (.slice (some ⟨g, 0, none⟩) (n + 1) cap) (n + 1) (xs ++ last)) : w.ownsRow base e size (.slice (some ⟨g, 0, none⟩) n cap) n xs := by
 obtain ⟨_, ⟨h0, _⟩ | ⟨g', cap', cur, hv, hg, hh, hn, hcap, hsz, htake⟩⟩ := h
 ·
  cases h0
 ·
  cases hv
  refine ⟨hx, .inr ⟨g, cap, cur, rfl, hg, hh, by omega, hcap, hsz, ?_⟩⟩
  have h3 : (cur.toList.take ((n + 1) * size)).take (n * size) = (xs ++ last).take (n * size) := by rw [htake]
  rw [List.take_take, Nat.min_eq_left (Nat.mul_le_mul_right _ (by omega))] at h3
  rw [h3, ← hx, List.take_left]
/-- A row is the same, or a new one. -/
def RowOr (W : World) (u u' : Value) : Prop := u'.ownBlock = u.ownBlock ∨ ∃ b, u'.ownBlock = some b ∧ W.heap.size ≤ b
theorem RowOr.refl (W : World) (u : Value) : RowOr W u u := .inl rfl
theorem RowOr.trans {W V : World} {a b c : Value} (h : RowOr W a b) (k : RowOr V b c) (hs : W.heap.size ≤ V.heap.size) : RowOr W a c := by
 rcases k with e | ⟨x, e, hx⟩
 ·
  rcases h with h | ⟨x, h, hx⟩
  ·
   exact .inl (e.trans h)
  ·
   exact .inr ⟨x, e.trans h, hx⟩
 ·
  exact .inr ⟨x, e, Nat.le_trans hs hx⟩
/-- The last step, in its cells. -/
theorem Todo.last {W : World} {base : Nat} {u : Value} {S : List (Nat × Node)} {p : Nat × Node} (h : Todo W base u (S ++ [p])) :
  ∃ g c, u = .slice (some ⟨g, 0, none⟩) (S.length + 1) c ∧ base ≤ g ∧ (∃ cur, W.heap[g]? = some (.cells cur 166 (0, 0))) ∧ (∀ i v, (stepCells p)[i]? = some v → W.cell? ⟨g, S.length * 7 + i, none⟩ = some v) ∧ Todo W base (.slice (some ⟨g, 0, none⟩) S.length c) S := by
 have h' := h
 unfold Todo at h'
 rw [List.length_append, stepsOf_append, stepsOf_one] at h'
 obtain ⟨g, c, rfl⟩ := ownsRow_succ h'
 refine ⟨g, c, rfl, (h.block rfl).1, (h.block rfl).2, fun i v hv => ?_, row_pop (stepsOf_length S) h'⟩
 have hi : i < 7 := (List.getElem?_eq_some_iff.1 hv).1
 rw [h'.cellAt (S.length * 7 + i) (by omega), List.getElem?_append_right (by rw [stepsOf_length]; omega), stepsOf_length, Nat.add_sub_cancel_left]
 exact hv
theorem infoSt : (Tryz.prog.info? 166).map (fun i => (i.zero, i.size, i.bytes)) = some (some (.agg #[(.int .i64 0), (.int .i64 0), (.int .i64 0), (.int .i64 0), (.int .i64 0), (.int .i32 0), (.int .i64 0)]), 7, 56) := by kernel_rfl
/-- One step is put behind the others. -/
theorem run_append_step (base : Nat) (ty : TypeId) (u : Value) (S : List (Nat × Node)) (p : Nat × Node) (g c : Nat) (w : World) (hu : Todo w base u S) (hg : w.heap[g]? = some (.cells (stepCells p).toArray 166 (0, 0))) (hb : base ≤ w.heap.size) (hl : S.length + 1 ≤ 1000001) :
  ∃ u' w', (Builtin.append_ #[163, 163] ty #[u, .slice (some ⟨g, 0, none⟩) 1 c]).run Tryz.prog w = .ok u' w' ∧ Todo w' base u' (S ++ [p]) ∧ w.grownBy w' u.ownBlock ∧ (u'.ownBlock = u.ownBlock ∨ u'.ownBlock = some w.heap.size) := by
 obtain ⟨i, hi, hz⟩ : ∃ i, Tryz.prog.info? 166 = some i ∧ (i.zero, i.size, i.bytes) = _ := by
  have := infoSt
  rcases h : Tryz.prog.info? 166 with _ | i
  ·
   rw [h] at this; cases this
  ·
   rw [h] at this; exact ⟨i, rfl, Option.some.inj this⟩
 simp only [Prod.mk.injEq] at hz
 obtain ⟨v', w', h1, h2, h3, _, h4⟩ := run_append_own_at (P := Tryz.prog) w base 163 ty 166 i _ 7 56 Tryz.underlying163 hi hz.1 hz.2.1 hz.2.2 rfl (by decide) u S.length (stepsOf S) hu ⟨g, 0, none⟩ 1 c (stepCells p) rfl
  (fun j v hv => by rw [add_lit, blk_cell hg, Nat.zero_add, List.getElem?_toArray]; exact hv) (stepCells_one p) (by simp only [maxLen]; omega) (by omega) hb
 refine ⟨v', w', h1, ?_, h3, h4⟩
 unfold Todo
 rw [stepsOf_append, stepsOf_one, List.length_append]
 exact h2
theorem wpListIn_append_eq {F : Fence} {n : Nat} {P : Program} {ops : Array Oper} {rest : List Oper} {o : Oper} {a : Act} {Q : Exit → Act → World → Prop} (hgd : o.guard = none) (s x : Operand) (t : TypeId) (ho : o.op = .call { callee := .builtin .append, args := #[s, x], argTypes := #[t, t] }) {v1 v2 v' : Value} {w w' : World}
  (hs : a.eval s = v1) (hx : a.eval x = v2) (hrun : (Builtin.append_ #[t, t] o.type #[v1, v2]).run P w = .ok v' w') (h : wpListIn F n P ops Q rest (a.put o.dst v') w') : wpListIn F n P ops Q (o :: rest) a w := by
 refine wpListIn_plain hgd fun K hK => ?_
 unfold Oper.wpIn
 refine ⟨by simp [Oper.about, ho, resolve, Target.leads, Sem.run_pure], ?_⟩
 rw [Oper.semAt_plain F _ _ (by rw [ho]; intro c hc'; cases hc')]
 simp [execOp, ho, resolve, invoke, builtin, hs, hx, hrun, Result.andThen]
 exact hK _ _ h
abbrev TODOc (u : Value) : Obj := .cells #[u] 163 (0, 0)
abbrev dotC (d : Dot) : Obj := .cells #[.int .i64 d.f0, .int .i64 d.f1] 25 (0, 0)
def pushed (l : List Node) (d : Dot) (dep : Nat) (k : Nat) : List (Nat × Node) := ((bk (kids l d)).take k).map fun p => (dep, p.2)
theorem pushed_succ {l : List Node} {d : Dot} {dep k : Nat} {x : Nat × Node} (h : (bk (kids l d))[k]? = some x) : pushed l d dep (k + 1) = pushed l d dep k ++ [(dep, x.2)] := by
 unfold pushed
 have hk := (List.getElem?_eq_some_iff.1 h).1
 rw [List.take_succ_eq_append_getElem hk, (List.getElem?_eq_some_iff.1 h).2, List.map_append]; rfl
theorem pushed_all (l : List Node) (d : Dot) (dep : Nat) : pushed l d dep (bk (kids l d)).length = ((kids l d).map fun y => (dep, y)).reverse := by
 unfold pushed
 rw [List.take_length, bk, List.map_reverse, List.map_map]
 congr 1
 rw [show ((fun p : Nat × Node => (dep, p.2)) ∘ fun p : Node × Nat => (p.2, p.1)) = (fun y => (dep, y)) ∘ Prod.fst from rfl, ← List.map_map, List.zipIdx_map_fst]
theorem pushed_length (l : List Node) (d : Dot) (dep k : Nat) : (pushed l d dep k).length ≤ (kids l d).length := by
 unfold pushed
 rw [List.length_map, List.length_take, bk_length]; omega
theorem stepOf_kids_le (l : List Node) (d : Dot) : (kids l d).length ≤ l.length := by rw [(kids_perm l d).length_eq]; exact List.length_filter_le _ _
theorem Tch.marks {E : Nat → Prop} {w W W' : World} (h : Tch E w W) (hm : OnlyMarks w.heap.size W W') : Tch E w W' :=
 ⟨hm.os.trans h.os, hm.tape.trans h.tape, hm.output.trans h.output, by rw [hm.size]; exact h.size, fun i hi he => (hm.block i (.inl hi)).trans (h.block i hi he)⟩
/-- What push touches. -/
def PushE (T : Nat) (u : Value) (i : Nat) : Prop := i = T ∨ u.ownBlock = some i
set_option maxHeartbeats 1000000 in
set_option maxRecDepth 100000 in
theorem push_call (fb base mp F T : Nat) (l : List Node) (d : Dot) (dep : Nat) (S : List (Nat × Node)) (u : Value) (w : World) (hfam : Fams fb w mp l) (hF : w.heap[F]? = some (boxF mp)) (hT : w.heap[T]? = some (TODOc u)) (hu : Todo w base u S) (hb : base ≤ w.heap.size)
  (hl : l.length ≤ 1000000) (hS : S.length + (kids l d).length ≤ 1000000) :
  Calls Tryz.prog 132 #[vDot d, .int .i64 (dep : Int), .pointer (some ⟨F, 0, none⟩), .pointer (some ⟨T, 0, none⟩)] w fun e w' => (∃ v, e = .returned v) ∧
   ∃ u', w'.heap[T]? = some (TODOc u') ∧ Todo w' base u' (S ++ ((kids l d).map fun y => (dep, y)).reverse) ∧ RowOr w u u' ∧ Tch (PushE T u) w w' := by
 have HFM := Aside0.mk hfam
 have HF := Aside0.mk hF
 have HT := Aside0.mk hT
 have HU := Aside0.mk hu
 have HL := Aside0.mk hl
 have HS := Aside0.mk hS
 have HBW := Aside0.mk hb
 have hgr := ((Gr.alloc w (dotC d)).trans (Gr.alloc _ (.cells #[.int .i64 (dep : Int)] 3 (0, 0)))).below
 have HG := Aside0.mk hgr
 have HD : Aside0 (((w.alloc (dotC d)).alloc (.cells #[.int .i64 (dep : Int)] 3 (0, 0))).heap[w.heap.size]? = some (dotC d)) := ⟨blk_alloc (blk_new _ _) _⟩
 have HI : Aside0 (((w.alloc (dotC d)).alloc (.cells #[.int .i64 (dep : Int)] 3 (0, 0))).heap[w.heap.size + 1]? = some (.cells #[.int .i64 (dep : Int)] 3 (0, 0))) := ⟨by have := blk_new (w.alloc (dotC d)) (.cells #[.int .i64 (dep : Int)] 3 (0, 0)); rwa [World.size_alloc] at this⟩
 have hF1 := blk_keep hF hgr
 have c0 : ((w.alloc (dotC d)).alloc (.cells #[.int .i64 (dep : Int)] 3 (0, 0))).cell? ⟨F, 0, none⟩ = _ := (blk_cell hF1 0).trans rfl
 have c1 : ((w.alloc (dotC d)).alloc (.cells #[.int .i64 (dep : Int)] 3 (0, 0))).cell? ⟨w.heap.size, 0, none⟩ = _ := (blk_cell HD.out 0).trans rfl
 have c2 : ((w.alloc (dotC d)).alloc (.cells #[.int .i64 (dep : Int)] 3 (0, 0))).cell? ⟨w.heap.size, 1, none⟩ = _ := (blk_cell HD.out 1).trans rfl
 have HFM1 := Aside0.mk (hfam.below hgr)
 clear hfam hF hT hu hl hS hgr hF1 hb HFM
 refine calls_of_wp_m Tryz.func132 rfl ?_
 simp only [Tryz.ntmps132, List.size_toArray, List.length_cons, List.length_nil, Nat.reduceAdd, Nat.reduceSub, Array.replicate_succ, Array.replicate_zero, List.push_toArray, List.append_toArray, List.nil_append, List.cons_append]
 go_wp2_with fail
 refine (of_call fb mp l d _ HFM1.out).mono ?_
 rintro e w1 ⟨v, rfl, hr, hb1⟩
 obtain ⟨A, c, rfl⟩ := Kd.R_slice hr
 obtain ⟨n, Hn⟩ : ∃ n, Aside0 ((kids l d).length = n) := ⟨_, ⟨rfl⟩⟩
 rw [Hn.out] at hr
 rw [Hn.out]
 have HR := Aside0.mk hr
 have HB := Aside0.mk (below_more HG.out hb1)
 have HI := Aside0.mk (blk_keep HI.out hb1)
 clear hr hb1 c0 c1 c2 HD HG
 go_wp2_with fail
 refine (BackwardNode.calls A n c w1).mono ?_
 rintro e w2 ⟨rfl, rfl⟩
 go_wp2_with fail
 have HBS : Aside0 ((w1.alloc (.cells #[.slice A n c] 22)).heap[w1.heap.size]? = some (.cells #[.slice A n c] 22 (0, 0))) := ⟨blk_new _ _⟩
 have hg1 := (Gr.alloc w1 (.cells #[.slice A n c] 22 (0, 0))).below
 have HR1 := Aside0.mk (HR.out.below' hg1)
 have HI1 := Aside0.mk (blk_keep HI.out hg1)
 have HB1 := Aside0.mk (below_more HB.out hg1)
 have HBSz : Aside0 (w1.heap.size < (w1.alloc (.cells #[.slice A n c] 22)).heap.size) := ⟨by rw [World.size_alloc]; omega⟩
 have HDz : Aside0 (w.heap.size + 1 < (w1.alloc (.cells #[.slice A n c] 22)).heap.size) := ⟨Nat.lt_of_lt_of_le (blk_lt HI.out) (by rw [World.size_alloc]; omega)⟩
 clear hg1 HR HI HB
 generalize w1.alloc (.cells #[.slice A n c] 22 (0, 0)) = W1 at *
 obtain ⟨Bs, HBs⟩ : ∃ Bs, Aside0 (w1.heap.size = Bs) := ⟨_, ⟨rfl⟩⟩
 obtain ⟨Di, HDi⟩ : ∃ Di, Aside0 (w.heap.size + 1 = Di) := ⟨_, ⟨rfl⟩⟩
 obtain ⟨Dd, HDd⟩ : ∃ Dd, Aside0 (w.heap.size = Dd) := ⟨_, ⟨rfl⟩⟩
 rw [HBs.out] at HBS HBSz ⊢
 rw [HDi.out] at HI1 HDz ⊢
 rw [show (Value.pointer (some { block := w.heap.size, off := 0 })) = .pointer (some ⟨Dd, 0, none⟩) by rw [HDd.out]]
 have HT1 := Aside0.mk (blk_keep HT.out HB1.out)
 have HU1 := Aside0.mk (HU.out.below HB1.out)
 have HA : Aside0 (∀ i cells t, W1.heap[i]? = some (.cells cells t (0, 0)) → t ≠ 163 → t ≠ 166 → ¬ PushE T u i) := ⟨by
  rintro i cells t h h1 h2 (rfl | e)
  ·
   rw [HT1.out] at h; exact h1 (Obj.cells.inj (Option.some.inj h)).2.1.symm
  ·
   obtain ⟨cur, hc⟩ := (HU1.out.block e).2
   rw [hc] at h; exact h2 (Obj.cells.inj (Option.some.inj h)).2.1.symm⟩
 refine wpIn_wide.1 (ListRange.wpIn_range (n := 9) (F := Fence.wide) rfl (by decide) (gf := 116) (lb := #[.pointer (some ⟨Bs, 0, none⟩)]) rfl trivial Tryz.call116
  (encs := fun x : Nat × Node => #[.int .i64 (x.1 : Int), vNode x.2]) (Kp := KpE W1.heap.size (PushE T u)) (L := bk (kids l d)) (w0 := W1)
  (fun lp J Jx W hWW _ _ hY h0 => bkNodes_in 8 lp Bs W1.heap.size (PushE T u) A c (kids l d) (by decide) (Nat.le_trans (stepOf_kids_le l d) HL.out) J Jx hY W (by rw [Hn.out]; exact (hWW.cell (p := ⟨Bs, 0, none⟩) HBSz.out).trans ((blk_cell HBS.out 0).trans rfl)) HBSz.out
   (HA.out Bs _ _ HBS.out (by decide) (by decide))
   (fun ad e hp => by
    obtain ⟨g, cap, e2, _, hlt, cells, hce⟩ := Kd.R_form HR1.out hp
    cases e2; cases e
    exact ⟨hlt, HA.out _ _ _ hce (by decide) (by decide)⟩)
   (by obtain ⟨_, _, e, _, hC⟩ := Kd.R_reads HR1.out; cases e; exact Kd.C_below hC hWW) h0)
  (fun h k => h.trans k) (fun W l o o' hl _ _ _ => KpE.put (Nat.le_refl _) W l o o' hl) (Below.refl _ _) (fun _ => rfl)
  (fun k W => ∃ u', W.heap[T]? = some (TODOc u') ∧ Todo W base u' (S ++ pushed l d dep k) ∧ RowOr W1 u u' ∧ Tch (PushE T u) W1 W)
  (fun _ _ _ => False)
  ?own (fun _ _ _ _ _ hs _ _ => hs) ⟨u, HT1.out, by rw [show pushed l d dep 0 = [] from rfl, List.append_nil]; exact HU1.out, RowOr.refl _ _, ⟨rfl, rfl, rfl, Nat.le_refl _, fun _ _ _ => rfl⟩⟩
  (fun x a' W => ∃ Nb, W1.heap.size ≤ Nb ∧ W.heap[Nb]? = some (boxN x.2) ∧ a' = { tmps := #[vDot d, .int .i64 (dep : Int), .pointer (some ⟨F, 0, none⟩), .pointer (some ⟨T, 0, none⟩), .pointer (some ⟨Dd, 0, none⟩), .pointer (some ⟨Di, 0, none⟩), undef, .pointer (some ⟨Nb, 0, none⟩), vFam mp, vDot d, .slice A n c, .func (.func 116) #[] #[.pointer (some ⟨Bs, 0, none⟩)], .int .i64 (x.1 : Int), vNode x.2, undef, undef, undef, undef, undef, undef], defers := [] })
  (fun x a' _ W W' row hs hg hr => by
   obtain ⟨Nb, h1, h2, h3⟩ := hs
   exact ⟨Nb, h1, (hg.block Nb (blk_lt h2) (fun e => by obtain ⟨_, o, ho, hc⟩ := hr Nb e.symm; rw [h2] at ho; cases ho; cases hc)).trans h2, h3⟩)
  ?assign ?body ?done ?stop)
 case own =>
  rintro k W W' row ⟨u', h1, h2, h4, h3⟩ hg hr
  have hnc : ∀ q cells t, W.heap[q]? = some (Obj.cells cells t (0, 0)) → W'.heap[q]? = W.heap[q]? := fun q cells t hq => hg.block q (blk_lt hq) (fun e => by obtain ⟨_, o, ho, hc⟩ := hr q e.symm; rw [hq] at ho; cases ho; cases hc)
  exact ⟨u', (hnc T _ _ h1).trans h1, h2.keep (fun g hgg => by obtain ⟨_, cur, hcur⟩ := h2.block hgg; exact hnc _ _ _ hcur), h4, h3.trans (Tch.grown (E := fun i => W1.heap.size ≤ i) hg (fun r e => (hr r e).1)) (fun i hi e => by omega)⟩
 case assign =>
  rintro lp k x W K hx ⟨u', h1, h2, h4, h3⟩ hK
  gi_wp2
  exact hK _ _ ((KeepsOthers.alloc _ _).from _) (KpE.below ((Below.refl _ W).alloc h3.size _)) ⟨u', blk_alloc h1 _, h2.below (Gr.alloc W _).below, h4, h3.trans (Tch.below (E := fun _ => False) (Gr.alloc W _).below) (fun _ _ h => h.elim)⟩ ⟨W.heap.size, h3.size, blk_new _ _, rfl⟩
 case body =>
  rintro lp k x a' W hx hl2 ⟨rr, hrr⟩ ⟨u', h1, h2, h4, h3⟩ ⟨Nb, hx1, hx2, rfl⟩
  obtain ⟨A', c', rfl⟩ := h2.slice
  obtain ⟨n', Hn'⟩ : ∃ n', Aside0 ((S ++ pushed l d dep k).length = n') := ⟨_, ⟨rfl⟩⟩
  rw [Hn'.out] at h1 h2 h4
  have hlt : n' ≤ 1000000 := by have h1 := Hn'.out; have h2 := pushed_length l d dep k; have h3 := HS.out; rw [List.length_append] at h1; omega
  have cT : W.cell? ⟨T, 0, none⟩ = _ := (blk_cell h1 0).trans rfl
  have n0 : W.cell? ⟨Nb, 0, none⟩ = _ := (blk_cell hx2 0).trans rfl
  have n1 : W.cell? ⟨Nb, 1, none⟩ = _ := (blk_cell hx2 1).trans rfl
  have n2 : W.cell? ⟨Nb, 2, none⟩ = _ := (blk_cell hx2 2).trans rfl
  have n3 : W.cell? ⟨Nb, 3, none⟩ = _ := (blk_cell hx2 3).trans rfl
  have n4 : W.cell? ⟨Nb, 4, none⟩ = _ := (blk_cell hx2 4).trans rfl
  have n5 : W.cell? ⟨Nb, 5, none⟩ = _ := (blk_cell hx2 5).trans rfl
  have hDI : W.heap[Di]? = some (.cells #[.int .i64 (dep : Int)] 3 (0, 0)) := (h3.block Di HDz.out (HA.out Di _ _ HI1.out (by decide) (by decide))).trans HI1.out
  have cD : W.cell? ⟨Di, 0, none⟩ = _ := (blk_cell hDI 0).trans rfl
  have hb0 : base ≤ W.heap.size := Nat.le_trans HBW.out (Nat.le_trans HB1.out.size h3.size)
  obtain ⟨u2, w2, hrun, htd, hgr, hat⟩ := run_append_step base 163 (.slice A' n' c') (S ++ pushed l d dep k) (dep, x.2) W.heap.size 1 (W.alloc (.cells (stepCells (dep, x.2)).toArray 166 (0, 0))) (h2.below (Gr.alloc W _).below) (blk_new _ _) (Nat.le_trans hb0 (by rw [World.size_alloc]; omega)) (by rw [Hn'.out]; omega)
  obtain ⟨A2, c2, rfl⟩ := htd.slice
  obtain ⟨m2, hn2⟩ : ∃ m2, (S ++ pushed l d dep k ++ [(dep, x.2)]).length = m2 := ⟨_, rfl⟩
  rw [hn2] at hrun htd hat
  clear hn2
  have hTne : some T ≠ (Value.slice A' n' c').ownBlock := fun e => by
   obtain ⟨_, cur, hc⟩ := h2.block e.symm
   rw [h1] at hc
   exact absurd (Obj.cells.inj (Option.some.inj hc)).2.1 (by decide)
  have hT2 : w2.heap[T]? = some (TODOc (.slice A' n' c')) := (hgr.block T (Nat.lt_of_lt_of_le (blk_lt h1) (by rw [World.size_alloc]; omega)) hTne).trans (blk_alloc h1 _)
  have cT2 : w2.cell? ⟨T, 0, none⟩ = _ := (blk_cell hT2 0).trans rfl
  have fT2 := blk_frozen hT2 0
  have HT2 := Aside0.mk hT2
  have HTne := Aside0.mk hTne
  have HRUN := Aside0.mk hrun
  have H4 := Aside0.mk h4
  have HAT := Aside0.mk hat
  have H1 := Aside0.mk h1
  have H2 := Aside0.mk h2
  have H3 := Aside0.mk h3
  have HTD := Aside0.mk htd
  have HGR := Aside0.mk hgr
  have HX := Aside0.mk hx
  clear h1 h2 h3 h4 hat hx hx1 hx2 hDI hb0 htd hgr hrun hT2 hTne
  obtain ⟨x0, x1⟩ := x
  dsimp only at n0 n1 n2 n3 n4 n5 ⊢
  gi_wp2_with (gi_at_builtin; refine wpListIn_append_eq rfl (.tmp 14) (.tmp 18) 163 rfl rfl rfl HRUN.out ?_)
  obtain ⟨u2, hu2⟩ : ∃ u2, Value.slice A2 m2 c2 = u2 := ⟨_, rfl⟩
  have HAT := HAT.out
  have HTD := HTD.out
  rw [hu2] at HAT HTD ⊢
  have hV : ∀ q, q ≠ T → (w2.setCell ⟨T, 0, none⟩ u2).heap[q]? = w2.heap[q]? := fun q hq => Below.heap_setCell w2 _ _ q hq
  have hq2 : ∀ q, q < W.heap.size → q ≠ T → (Value.slice A' n' c').ownBlock ≠ some q → (w2.setCell ⟨T, 0, none⟩ u2).heap[q]? = W.heap[q]? := fun q hq h1 h2 => by
   rw [hV q h1, HGR.out.block q (by rw [World.size_alloc]; omega) (fun e => h2 e.symm), Below.heap_alloc W _ q hq]
  have hsz : W.heap.size ≤ (w2.setCell ⟨T, 0, none⟩ u2).heap.size := by rw [World.size_setCell]; exact Nat.le_trans (by rw [World.size_alloc]; omega) HGR.out.size
  have hrow : RowOr W1 u u2 := by
   refine H4.out.trans (V := W) (b := .slice A' n' c') ?_ H3.out.size
   rcases HAT with e | e
   ·
    exact .inl e
   ·
    exact .inr ⟨_, e, by rw [World.size_alloc]; omega⟩
  have hnE : ∀ q, q < W1.heap.size → ¬ PushE T u q → q ≠ T ∧ (Value.slice A' n' c').ownBlock ≠ some q := fun q hq hE => ⟨fun e => hE (.inl e), fun e => by
   rcases H4.out with h | ⟨b, h, hb⟩
   ·
    exact hE (.inr (h ▸ e))
   ·
    rw [h] at e; have := Option.some.inj e; omega⟩
  refine ⟨⟨hsz, fun q o hB hq hoc => (hq2 q (blk_lt hq) (fun e => ?_) (fun e => ?_)).trans hq⟩, ⟨hsz, fun q hq hE => hq2 q (Nat.lt_of_lt_of_le hq H3.out.size) (hnE q hq hE).1 (hnE q hq hE).2⟩, u2, ?_, ?_, hrow, ?_⟩
  ·
   subst e; rw [H1.out] at hq; cases hq; cases hoc
  ·
   obtain ⟨_, cur, hc⟩ := H2.out.block e
   rw [hc] at hq; cases hq; cases hoc
  ·
   exact blk_set HT2.out 0 _
  ·
   rw [pushed_succ HX.out, ← List.append_assoc]
   refine HTD.keep (fun g hg => hV g (fun e => ?_))
   subst e
   obtain ⟨_, cur, hc⟩ := HTD.block hg
   rw [HT2.out] at hc
   exact absurd (Obj.cells.inj (Option.some.inj hc)).2.1 (by decide)
  ·
   refine H3.out.trans (E' := fun i => i = T ∨ (Value.slice A' n' c').ownBlock = some i) ⟨?_, ?_, ?_, hsz, fun q hq hE => hq2 q hq (fun e => hE (.inl e)) (fun e => hE (.inr e))⟩ (fun i hi hE => Classical.byContradiction fun hn => ?_)
   ·
    exact HGR.out.os
   ·
    exact HGR.out.tape
   ·
    exact HGR.out.output
   ·
    obtain ⟨h1, h2⟩ := hnE i hi hn
    exact hE.elim h1 h2
 case done =>
  rintro D W hD ⟨u', h1, h2, h4, h3⟩ hDK
  rw [pushed_all] at h2
  have HEND : Aside0 (W.heap[T]? = some (TODOc u') ∧ Todo W base u' (S ++ ((kids l d).map fun y => (dep, y)).reverse) ∧ RowOr w u u' ∧ Tch (PushE T u) w W) := ⟨h1, h2, (RowOr.refl w u).trans h4 HB1.out.size, (Tch.below HB1.out).trans h3 (fun i _ e => e)⟩
  have HD := Aside0.mk hD
  have HDK := Aside0.mk hDK
  clear h1 h2 h3 h4 hD hDK
  go_wp2
  refine leaves_of_marks2 (n0 := w.heap.size) [mkMark D] _ ⟨[D], rfl, by simp, fun E hE => ?_⟩ (fun W' hm => ⟨_, results_none rfl _ _ W', ⟨_, rfl⟩, u', (hm.block T (.inr fun o e => ?_)).trans HEND.out.1, HEND.out.2.1.keep (fun g hg => hm.block g (.inr fun o e => ?_)), HEND.out.2.2.1, HEND.out.2.2.2.marks hm⟩)
  ·
   simp only [List.mem_singleton] at hE
   subst hE
   exact ⟨Nat.le_trans HB1.out.size HD.out, HDK.out⟩
  ·
   rw [HEND.out.1] at e; cases e
  ·
   obtain ⟨_, cur, hc⟩ := HEND.out.2.1.block hg
   rw [hc] at e; cases e
 case stop =>
  rintro D c k W _ _ h _
  exact h.elim
/-- The types of the blocks that families.below keeps for itself. -/
def ownT (t : Nat) : Prop := t = 145 ∨ t = 166 ∨ t = 163
instance (t : Nat) : Decidable (ownT t) := by unfold ownT; infer_instance
structure KpT (n : Nat) (E : Nat → Prop) (W W' : World) : Prop where
 kp : KpE n E W W'
 own : ∀ (i : Nat) (c : Array Value) (t : Nat), W.heap[i]? = some (.cells c t (0, 0)) → ownT t → W'.heap[i]? = some (.cells c t (0, 0))
theorem KpT.trans {n : Nat} {E : Nat → Prop} {A B C : World} (h : KpT n E A B) (k : KpT n E B C) : KpT n E A C := ⟨h.kp.trans k.kp, fun i c t hi ht => k.own i c t (h.own i c t hi ht) ht⟩
theorem KpT.below {n : Nat} {E : Nat → Prop} {A B : World} (h : Below A.heap.size A B) (hn : n ≤ A.heap.size) : KpT n E A B := ⟨KpE.below (h.mono hn), fun i c t hi _ => blk_keep hi h⟩
theorem KpT.put {n m : Nat} {E : Nat → Prop} (hn : n ≤ m) (W : World) (l : Nat) (o o' : Obj) (hl : m ≤ l) (ho : W.heap[l]? = some o) (hc : o.isCells = false) : KpT n E W (W.putObj l o') :=
 ⟨KpE.put hn W l o o' hl, fun i c t hi _ => (World.putObj_heap_other (fun e => by subst e; rw [hi] at ho; cases ho; cases hc)).trans hi⟩
def famBl (mp : Nat) (v : Value) (vs : List Value) (i : Nat) : Prop := i = mp ∨ v.ownBlock = some i ∨ ∃ u ∈ vs, u.ownBlock = some i
theorem zip_of_mem {ks : List Dot} {vs : List Value} (hl : vs.length = ks.length) {u : Value} (hu : u ∈ vs) : ∃ d, (d, u) ∈ ks.zip vs := by
 obtain ⟨i, hi⟩ := List.getElem?_of_mem hu
 have hil := (List.getElem?_eq_some_iff.1 hi).1
 exact ⟨ks[i]'(by omega), List.mem_of_getElem? (i := i) (by rw [List.getElem?_zip_eq_some]; exact ⟨List.getElem?_eq_getElem _, hi⟩)⟩
theorem FamSt.typed {base : Nat} {W : World} {mp : Nat} {v : Value} {ks : List Dot} {vs : List Value} {fam : Dot → List Node} (h : FamSt base W mp v ks vs fam) {i : Nat} (hi : famBl mp v vs i) :
  ∃ (c : Array Value) (t : Nat), W.heap[i]? = some (.cells c t (0, 0)) ∧ (t = 173 ∨ t = 176 ∨ t = 53) := by
 rcases hi with rfl | e | ⟨u, hu, e⟩
 ·
  exact ⟨_, _, h.map.map, .inl rfl⟩
 ·
  rcases h.map.row.2 with ⟨rfl, _⟩ | ⟨g', c, cur, rfl, _, hcur, _⟩
  ·
   cases e
  ·
   cases e; exact ⟨_, _, hcur, .inr (.inl rfl)⟩
 ·
  obtain ⟨d, hd⟩ := zip_of_mem h.map.len hu
  obtain ⟨_, cur, hc⟩ := (h.rows d u hd).block e
  exact ⟨_, _, hc, .inr (.inr rfl)⟩
theorem FamSt.keep {base : Nat} {W V : World} {mp : Nat} {v : Value} {ks : List Dot} {vs : List Value} {fam : Dot → List Node} (h : FamSt base W mp v ks vs fam) (hk : ∀ i, famBl mp v vs i → V.heap[i]? = W.heap[i]?) : FamSt base V mp v ks vs fam :=
 ⟨h.map.keep (hk mp (.inl rfl)) (fun g hg => hk g (.inr (.inl hg))), fun d u hm => (h.rows d u hm).keep (fun g hg => hk g (.inr (.inr ⟨u, (List.of_mem_zip hm).2, hg⟩))), h.sep, h.none⟩
/-- The families of l, in blocks below n that are not in E. -/
def FamsIn (fb n : Nat) (E : Nat → Prop) (W : World) (mp : Nat) (l : List Node) : Prop := ∃ v ks vs, FamSt fb W mp v ks vs (kids l) ∧ ∀ i, famBl mp v vs i → i < n ∧ ¬ E i
theorem FamsIn.fams {fb n : Nat} {E : Nat → Prop} {W : World} {mp : Nat} {l : List Node} (h : FamsIn fb n E W mp l) : Fams fb W mp l := by
 obtain ⟨v, ks, vs, h, _⟩ := h
 exact ⟨v, ks, vs, h⟩
theorem FamsIn.of {fb n : Nat} {E : Nat → Prop} {W : World} {mp : Nat} {l : List Node} (h : Fams fb W mp l) (hn : W.heap.size ≤ n) (hE : ∀ (i : Nat) (c : Array Value) (t : Nat), E i → W.heap[i]? = some (.cells c t (0, 0)) → t ≠ 173 ∧ t ≠ 176 ∧ t ≠ 53) : FamsIn fb n E W mp l := by
 obtain ⟨v, ks, vs, h⟩ := h
 refine ⟨v, ks, vs, h, fun i hi => ?_⟩
 obtain ⟨c, t, hc, ht⟩ := h.typed hi
 refine ⟨Nat.lt_of_lt_of_le (blk_lt hc) hn, fun he => ?_⟩
 obtain ⟨h1, h2, h3⟩ := hE i c t he hc
 rcases ht with e | e | e
 ·
  exact h1 e
 ·
  exact h2 e
 ·
  exact h3 e
theorem FamsIn.kp {fb n : Nat} {E : Nat → Prop} {W V : World} {mp : Nat} {l : List Node} (h : FamsIn fb n E W mp l) (hk : KpE n E W V) : FamsIn fb n E V mp l := by
 obtain ⟨v, ks, vs, h, hb⟩ := h
 exact ⟨v, ks, vs, h.keep fun i hi => hk.2 i (hb i hi).1 (hb i hi).2, hb⟩
theorem FamsIn.below {fb n : Nat} {E : Nat → Prop} {W V : World} {mp : Nat} {l : List Node} (h : FamsIn fb n E W mp l) (hb : Below W.heap.size W V) : FamsIn fb n E V mp l := by
 obtain ⟨v, ks, vs, h, h2⟩ := h
 exact ⟨v, ks, vs, h.below hb, h2⟩
theorem FamsIn.tch {fb n : Nat} {E X : Nat → Prop} {W V : World} {mp : Nat} {l : List Node} (h : FamsIn fb n E W mp l) (hk : Tch X W V) (hX : ∀ (i : Nat) (c : Array Value) (t : Nat), X i → W.heap[i]? = some (.cells c t (0, 0)) → ownT t) : FamsIn fb n E V mp l := by
 obtain ⟨v, ks, vs, h, hb⟩ := h
 refine ⟨v, ks, vs, h.keep fun i hi => ?_, hb⟩
 obtain ⟨c, t, hc, ht⟩ := h.typed hi
 refine hk.block i (blk_lt hc) fun hx => ?_
 have := hX i c t hx hc
 rcases ht with rfl | rfl | rfl <;> revert this <;> decide
theorem mv_tch {X : Nat → Prop} {b : Nat} {W V : World} (hk : Tch X W V) (hX : ∀ i, i < W.heap.size → X i → b ≤ i ∧ ∃ (c : Array Value) (t : Nat), W.heap[i]? = some (.cells c t (0, 0)) ∧ ownT t) : ListRange.Mv ownT b W V :=
 ⟨hk.os, hk.tape, hk.output, hk.size, fun i hi hc => hk.block i hi fun hx => by
  obtain ⟨h1, c, t, h2, h3⟩ := hX i hi hx
  rcases hc with h | h
  ·
   omega
  ·
   exact h c t h2 h3⟩
/-- What waits on the stack, its top at the end. -/
structure Stk (l : List Node) (dep : Nat) (d : Dot) (k : Nat) (S : List (Nat × Node)) : Prop where
 rest : restOf l S.reverse = (belowOf l dep d).drop k
 way : ∀ p ∈ S, ∃ V, Path l p.2.f0 (p.2 :: V) ∧ p.1 ≤ V.length + dep
theorem Stk.le {l : List Node} {dep : Nat} {d : Dot} {k : Nat} {S : List (Nat × Node)} (h : Stk l dep d k S) : S.length ≤ (belowOf l dep d).length := by
 have := restOf_le l S.reverse
 rw [h.rest, List.length_drop, List.length_reverse] at this
 omega
theorem Stk.start {l : List Node} (hs : Store l) {d : Dot} {U : List Node} (h : Path l d U) (dep : Nat) : Stk l dep d 0 ((kids l d).map fun y => (dep, y)).reverse := by
 refine ⟨by rw [List.reverse_reverse, restOf_kids hs h dep, List.drop_zero], fun p hp => ?_⟩
 obtain ⟨y, hy, rfl⟩ := List.mem_map.1 (List.mem_reverse.1 hp)
 obtain ⟨hy, e⟩ := mem_kids.1 hy
 exact ⟨U, .step d U y h hy e, by simp⟩
theorem Stk.empty {l : List Node} {dep : Nat} {d : Dot} {k : Nat} (h : Stk l dep d k []) : (belowOf l dep d).length ≤ k := by
 have := congrArg List.length h.rest
 rw [List.length_drop] at this
 simp [restOf] at this
 omega
theorem Stk.step {l : List Node} (hs : Store l) {dep : Nat} {d : Dot} {k : Nat} {S : List (Nat × Node)} {p : Nat × Node} (h : Stk l dep d k (S ++ [p])) :
  (belowOf l dep d)[k]? = some p ∧ Stk l dep d (k + 1) (S ++ ((kids l p.2.f0).map fun y => (p.1 + 1, y)).reverse) := by
 obtain ⟨V, hV, hp⟩ := h.way p (by simp)
 have hr := h.rest
 rw [List.reverse_append, List.reverse_singleton, List.singleton_append, restOf_cons hs hV] at hr
 have hk : k < (belowOf l dep d).length := by
  refine Nat.lt_of_not_le fun hk => ?_
  rw [List.drop_eq_nil_of_le hk] at hr; cases hr
 rw [List.drop_eq_getElem_cons hk] at hr
 refine ⟨by rw [List.getElem?_eq_getElem hk, ← (List.cons.inj hr).1], by rw [List.reverse_append, List.reverse_reverse]; exact (List.cons.inj hr).2, fun q hq => ?_⟩
 rcases List.mem_append.1 hq with hq | hq
 ·
  exact h.way q (List.mem_append_left _ hq)
 ·
  obtain ⟨y, hy, rfl⟩ := List.mem_map.1 (List.mem_reverse.1 hq)
  obtain ⟨hy, e⟩ := mem_kids.1 hy
  exact ⟨p.2 :: V, .step _ _ y hV hy e, by simp; omega⟩
abbrev boxS (p : Nat × Node) : Obj := .cells #[.int .i64 p.2.f0.f0, .int .i64 p.2.f0.f1, .int .i64 p.2.f1.f0, .int .i64 p.2.f1.f1, .int .i64 p.2.f2, .int .i32 p.2.f3, .int .i64 (p.1 : Int)] 166 (0, 0)
theorem Todo.cap {W : World} {base g m c : Nat} {S : List (Nat × Node)} (h : Todo W base (.slice (some ⟨g, 0, none⟩) m c) S) : m ≤ c ∧ c ≤ maxLen := by
 rcases h.2 with ⟨e, _⟩ | ⟨g', c', cur, e, _, _, h1, h2, _⟩
 ·
  cases e
 ·
  cases e; exact ⟨h1, h2⟩
/-- How the loop stands after k rounds. -/
structure BlwF (fb n₀ : Nat) (E : Nat → Prop) (J : Nat → World → Prop) (mp F T b0 : Nat) (l : List Node) (dep : Nat) (d : Dot) (k : Nat) (S : List (Nat × Node)) (u : Value) (W : World) : Prop where
 stk : Stk l dep d k S
 todoC : W.heap[T]? = some (TODOc u)
 row : Todo W b0 u S
 low : b0 ≤ T ∧ b0 ≤ W.heap.size
 fam : FamsIn fb n₀ E W mp l
 box : W.heap[F]? = some (boxF mp)
 j : J k W
theorem BlwF.mv {b0 : Nat} {W V : World} {b T : Nat} {u : Value} (hb : b ≤ b0) (hT : b0 ≤ T) (hC : W.heap[T]? = some (TODOc u)) (hR : ∀ g, u.ownBlock = some g → b0 ≤ g ∧ ∃ cur, W.heap[g]? = some (.cells cur 166 (0, 0))) (h : Tch (PushE T u) W V) : ListRange.Mv ownT b W V := by
 refine mv_tch h fun i hi hx => ?_
 rcases hx with rfl | e
 ·
  exact ⟨Nat.le_trans hb hT, _, _, hC, .inr (.inr rfl)⟩
 ·
  obtain ⟨h1, cur, h2⟩ := hR i e
  exact ⟨Nat.le_trans hb h1, _, _, h2, .inr (.inl rfl)⟩
theorem BlwF.fams {fb n₀ : Nat} {E : Nat → Prop} {mp : Nat} {l : List Node} {b0 : Nat} {W V : World} {T : Nat} {u : Value} (hf : FamsIn fb n₀ E W mp l) (hC : W.heap[T]? = some (TODOc u)) (hR : ∀ g, u.ownBlock = some g → b0 ≤ g ∧ ∃ cur, W.heap[g]? = some (.cells cur 166 (0, 0))) (h : Tch (PushE T u) W V) : FamsIn fb n₀ E V mp l := by
 refine hf.tch h fun i c t hx hi => ?_
 rcases hx with rfl | e
 ·
  rw [hC] at hi; cases hi; exact .inr (.inr rfl)
 ·
  obtain ⟨_, cur, h2⟩ := hR i e
  rw [h2] at hi; cases hi; exact .inr (.inl rfl)
theorem push_far {W V : World} {b0 T : Nat} {u : Value} (hC : W.heap[T]? = some (TODOc u)) (hR : ∀ g, u.ownBlock = some g → b0 ≤ g ∧ ∃ cur, W.heap[g]? = some (.cells cur 166 (0, 0))) (h : Tch (PushE T u) W V) {i : Nat} {c : Array Value} {t : Nat} (hi : W.heap[i]? = some (.cells c t (0, 0))) (ht : t ≠ 166 ∧ t ≠ 163) : V.heap[i]? = some (.cells c t (0, 0)) := by
 refine (h.block i (blk_lt hi) fun hx => ?_).trans hi
 rcases hx with rfl | e
 ·
  rw [hC] at hi; cases hi; exact ht.2 rfl
 ·
  obtain ⟨_, cur, h2⟩ := hR i e
  rw [h2] at hi; cases hi; exact ht.1 rfl
set_option maxHeartbeats 2000000 in
set_option maxRecDepth 100000 in
theorem below_in (n lp fb n₀ mp : Nat) (E : Nat → Prop) (l : List Node) (d : Dot) (dep : Nat) (U : List Node) (hn : 1 ≤ n) (hs : Store l) (hU : Path l d U) (hl : l.length ≤ 1000000) (hlen : (belowOf l dep d).length ≤ 1000000) (hdep : dep ≤ 1000000) (J Jx : Nat → World → Prop) (W : World)
  (hm : ∀ k A B, ListRange.Mv ownT W.heap.size A B → J k A → J k B)
  (hY : ∀ k x V, (belowOf l dep d)[k]? = some x → J k V → YieldAt Fence.wide (n - 1) Tryz.prog lp #[.int .i64 ((x : Nat × Node).1 : Int), vNode x.2] V fun e V' =>
   (e = .returned (.bool true) ∧ J (k + 1) V' ∧ KpT n₀ E V V') ∨ (e = .returned (.bool false) ∧ Jx (k + 1) V'))
  (hF : FamsIn fb n₀ E W mp l) (h0 : J 0 W) :
  CallsIn Fence.wide n Tryz.prog 120 #[vFam mp, vDot d, .int .i64 (dep : Int), .func (.yield lp) #[] #[]] W fun e V => (∃ v, e = .returned v) ∧
   (J (belowOf l dep d).length V ∨ ∃ k, k ≤ (belowOf l dep d).length ∧ Jx k V) := by
 have HM := Aside0.mk hm
 have HY := Aside0.mk hY
 have HS := Aside0.mk hs
 have HU := Aside0.mk hU
 have HL := Aside0.mk hl
 have HLEN := Aside0.mk hlen
 have HDEP := Aside0.mk hdep
 have HF := Aside0.mk hF
 have HJ := Aside0.mk h0
 clear hm hY hs hU hl hlen hdep hF h0
 refine callsIn_of_wp Tryz.func120 rfl trivial ?_ rfl
 simp only [Tryz.ntmps120, List.size_toArray, List.length_cons, List.length_nil, Nat.reduceAdd, Nat.reduceSub, Array.replicate_succ, Array.replicate_zero, List.push_toArray, List.append_toArray, List.nil_append, List.cons_append]
 gi_wp2
 have hgr : Gr W (((W.alloc (boxF mp)).alloc (dotC d)).alloc (TODOc (.slice none 0 0))) := ((Gr.alloc _ _).trans (Gr.alloc _ _)).trans (Gr.alloc _ _)
 have HF1 := Aside0.mk (HF.out.below hgr.below)
 have HBF : Aside0 ((((W.alloc (boxF mp)).alloc (dotC d)).alloc (TODOc (.slice none 0 0))).heap[W.heap.size]? = some (boxF mp)) := ⟨blk_alloc (blk_alloc (blk_new _ _) _) _⟩
 have HBT : Aside0 ((((W.alloc (boxF mp)).alloc (dotC d)).alloc (TODOc (.slice none 0 0))).heap[W.heap.size + 1 + 1]? = some (TODOc (.slice none 0 0))) := ⟨by have := blk_new ((W.alloc (boxF mp)).alloc (dotC d)) (TODOc (.slice none 0 0)); rwa [World.size_alloc, World.size_alloc] at this⟩
 have HSZ : Aside0 (W.heap.size + 3 = (((W.alloc (boxF mp)).alloc (dotC d)).alloc (TODOc (.slice none 0 0))).heap.size) := ⟨by rw [World.size_alloc, World.size_alloc, World.size_alloc]⟩
 have HMV : Aside0 (ListRange.Mv ownT W.heap.size W (((W.alloc (boxF mp)).alloc (dotC d)).alloc (TODOc (.slice none 0 0)))) := ⟨ListRange.Mv.below hgr.below⟩
 clear hgr HF
 generalize ((W.alloc (boxF mp)).alloc (dotC d)).alloc (TODOc (.slice none 0 0)) = W1 at *
 obtain ⟨b0, Hb0⟩ : ∃ b0, Aside0 (W.heap.size = b0) := ⟨_, ⟨rfl⟩⟩
 obtain ⟨T, HT⟩ : ∃ T, Aside0 (W.heap.size + 1 + 1 = T) := ⟨_, ⟨rfl⟩⟩
 obtain ⟨Dd, HD⟩ : ∃ Dd, Aside0 (W.heap.size + 1 = Dd) := ⟨_, ⟨rfl⟩⟩
 obtain ⟨F, HFe⟩ : ∃ F, Aside0 (W.heap.size = F) := ⟨_, ⟨rfl⟩⟩
 rw [HT.out] at HBT
 rw [HFe.out] at HBF
 rw [show (Value.pointer (some { block := W.heap.size + 1 + 1, off := 0 })) = .pointer (some ⟨T, 0, none⟩) by rw [HT.out], show (Value.pointer (some { block := W.heap.size + 1, off := 0 })) = .pointer (some ⟨Dd, 0, none⟩) by rw [HD.out], show (Value.pointer (some { block := W.heap.size, off := 0 })) = .pointer (some ⟨F, 0, none⟩) by rw [HFe.out]]
 have HJ1 := Aside0.mk (HM.out 0 W W1 HMV.out HJ.out)
 have hlow : b0 ≤ T ∧ b0 ≤ W1.heap.size := by have h1 := HSZ.out; have h2 := Hb0.out; have h3 := HT.out; omega
 have HLOW := Aside0.mk hlow
 refine ⟨trivial, CallsIn.mono (callsIn_wide.2 (push_call fb b0 mp F T l d dep [] (.slice none 0 0) W1 HF1.out.fams HBF.out HBT.out (Todo.nil _ _) hlow.2 HL.out (by rw [List.length_nil]; have h1 := stepOf_kids_le l d; have h2 := HL.out; omega))) ?_⟩
 rintro e W2 ⟨⟨r, rfl⟩, u, hT2, hu2, hro, htc⟩
 have HSTART : Aside0 (BlwF fb n₀ E J mp F T b0 l dep d 0 ((kids l d).map fun y => (dep, y)).reverse u W2) := ⟨by
  have hR : ∀ g, (Value.slice none 0 0).ownBlock = some g → b0 ≤ g ∧ ∃ cur, W1.heap[g]? = some (.cells cur 166 (0, 0)) := fun g hg => by cases hg
  exact ⟨Stk.start HS.out HU.out dep, hT2, by simpa using hu2, ⟨hlow.1, Nat.le_trans hlow.2 htc.size⟩, BlwF.fams HF1.out HBT.out hR htc, push_far HBT.out hR htc HBF.out ⟨by decide, by decide⟩, HM.out 0 W1 W2 (BlwF.mv (Nat.le_of_eq Hb0.out) hlow.1 HBT.out hR htc) HJ1.out⟩⟩
 clear hT2 hu2 hro htc hlow HF1 HBF HBT HMV HJ1
 gi_wp2
 gi_loopg [] (belowOf l dep d).length (fun gk wr => ∃ (k : Nat) (S : List (Nat × Node)) (u : Value), gk + k = (belowOf l dep d).length ∧ Aside0 (BlwF fb n₀ E J mp F T b0 l dep d k S u wr))
 case atStart => exact ⟨0, _, u, rfl, HSTART⟩
 case round =>
  obtain ⟨k, S, u', hk, HB⟩ := hrel
  clear HSTART
  rcases List.eq_nil_or_concat S with rfl | ⟨S', p, rfl⟩
  ·
   obtain ⟨A', c', rfl⟩ := HB.out.row.slice
   have cT : wr.cell? ⟨T, 0, none⟩ = _ := (blk_cell HB.out.todoC 0).trans rfl
   have HEND : Aside0 (J (belowOf l dep d).length wr) := ⟨by have h1 := HB.out.stk.empty; have h2 := HB.out.j; rwa [show k = (belowOf l dep d).length by omega] at h2⟩
   gi_wp2
   go_end0
   exact ⟨⟨_, rfl⟩, .inl HEND.out⟩
  ·
   rw [List.concat_eq_append] at HB
   obtain ⟨g, c, rfl, hg, ⟨cur, hcur⟩, hcells, htd⟩ := HB.out.row.last
   obtain ⟨hx, hst⟩ := HB.out.stk.step HS.out
   obtain ⟨m, Hm⟩ : ∃ m, Aside0 (S'.length = m) := ⟨_, ⟨rfl⟩⟩
   rw [Hm.out] at hcells htd HB
   have cT : wr.cell? ⟨T, 0, none⟩ = _ := (blk_cell HB.out.todoC 0).trans rfl
   have hm6 : m ≤ 1000000 := by have h1 := hst.le; have h2 := HLEN.out; have h3 := Hm.out; rw [List.length_append] at h1; omega
   have hwl : wrap64 (((m + 1 : Nat) : Int) - 1) = (m : Int) := by unfold wrap64; omega
   have hgt : decide (((m + 1 : Nat) : Int) > 0) = true := decide_eq_true (by omega)
   have p0 : wr.cell? ⟨g, m * 7, none⟩ = some (.int .i64 p.2.f0.f0) := hcells 0 _ rfl
   have p1 : wr.cell? ⟨g, m * 7 + 1, none⟩ = some (.int .i64 p.2.f0.f1) := hcells 1 _ rfl
   have p2 : wr.cell? ⟨g, m * 7 + 2, none⟩ = some (.int .i64 p.2.f1.f0) := hcells 2 _ rfl
   have p3 : wr.cell? ⟨g, m * 7 + 3, none⟩ = some (.int .i64 p.2.f1.f1) := hcells 3 _ rfl
   have p4 : wr.cell? ⟨g, m * 7 + 4, none⟩ = some (.int .i64 p.2.f2) := hcells 4 _ rfl
   have p5 : wr.cell? ⟨g, m * 7 + 5, none⟩ = some (.int .i32 p.2.f3) := hcells 5 _ rfl
   have p6 : wr.cell? ⟨g, m * 7 + 6, none⟩ = some (.int .i64 (p.1 : Int)) := hcells 6 _ rfl
   have HX := Aside0.mk hx
   have HST := Aside0.mk hst
   have HTD := Aside0.mk htd
   have HCUR := Aside0.mk hcur
   have HG := Aside0.mk hg
   clear hx hst htd hcells hcur hg
   have hT1 : (wr.alloc (boxS p)).heap[T]? = some (TODOc (.slice (some ⟨g, 0, none⟩) (m + 1) c)) := blk_alloc HB.out.todoC _
   have cT1 : (wr.alloc (boxS p)).cell? ⟨T, 0, none⟩ = _ := (blk_cell hT1 0).trans rfl
   have fT1 := blk_frozen hT1 0
   have hmc : m ≤ c := HTD.out.cap.1
   have hmx : c ≤ 9223372036854775807 := HTD.out.cap.2
   obtain ⟨Bx, HBx⟩ : ∃ Bx, Aside0 (wr.heap.size = Bx) := ⟨_, ⟨rfl⟩⟩
   have hBT : Bx ≠ T := fun e => by have := blk_lt HB.out.todoC; have := HBx.out; omega
   have hX3 : ((wr.alloc (boxS p)).setCell ⟨T, 0, none⟩ (.slice (some ⟨g, 0, none⟩) m c)).heap[Bx]? = some (boxS p) := by rw [Below.heap_setCell _ _ _ Bx hBT, ← HBx.out]; exact blk_new _ _
   have q0 : ((wr.alloc (boxS p)).setCell ⟨T, 0, none⟩ (.slice (some ⟨g, 0, none⟩) m c)).cell? ⟨Bx, 0, none⟩ = _ := (blk_cell hX3 0).trans rfl
   have q1 : ((wr.alloc (boxS p)).setCell ⟨T, 0, none⟩ (.slice (some ⟨g, 0, none⟩) m c)).cell? ⟨Bx, 1, none⟩ = _ := (blk_cell hX3 1).trans rfl
   have q2 : ((wr.alloc (boxS p)).setCell ⟨T, 0, none⟩ (.slice (some ⟨g, 0, none⟩) m c)).cell? ⟨Bx, 2, none⟩ = _ := (blk_cell hX3 2).trans rfl
   have q3 : ((wr.alloc (boxS p)).setCell ⟨T, 0, none⟩ (.slice (some ⟨g, 0, none⟩) m c)).cell? ⟨Bx, 3, none⟩ = _ := (blk_cell hX3 3).trans rfl
   have q4 : ((wr.alloc (boxS p)).setCell ⟨T, 0, none⟩ (.slice (some ⟨g, 0, none⟩) m c)).cell? ⟨Bx, 4, none⟩ = _ := (blk_cell hX3 4).trans rfl
   have q5 : ((wr.alloc (boxS p)).setCell ⟨T, 0, none⟩ (.slice (some ⟨g, 0, none⟩) m c)).cell? ⟨Bx, 5, none⟩ = _ := (blk_cell hX3 5).trans rfl
   have q6 : ((wr.alloc (boxS p)).setCell ⟨T, 0, none⟩ (.slice (some ⟨g, 0, none⟩) m c)).cell? ⟨Bx, 6, none⟩ = _ := (blk_cell hX3 6).trans rfl
   rw [← HBx.out] at q0 q1 q2 q3 q4 q5 q6
   have HX3 := Aside0.mk hX3
   have HMV3 : Aside0 (ListRange.Mv ownT b0 wr ((wr.alloc (boxS p)).setCell ⟨T, 0, none⟩ (.slice (some ⟨g, 0, none⟩) m c))) := ⟨by
    refine (ListRange.Mv.below (Gr.alloc wr (boxS p)).below).trans (mv_tch (X := fun i => i = T) ⟨rfl, rfl, rfl, by rw [World.size_setCell]; exact Nat.le_refl _, fun i hi hne => Below.heap_setCell _ _ _ i hne⟩ fun i hi e => ?_)
    subst e
    exact ⟨HB.out.low.1, _, _, hT1, .inr (.inr rfl)⟩⟩
   have HT3 : Aside0 (((wr.alloc (boxS p)).setCell ⟨T, 0, none⟩ (.slice (some ⟨g, 0, none⟩) m c)).heap[T]? = some (TODOc (.slice (some ⟨g, 0, none⟩) m c))) := ⟨blk_set hT1 0 _⟩
   have HR3 : Aside0 (Todo ((wr.alloc (boxS p)).setCell ⟨T, 0, none⟩ (.slice (some ⟨g, 0, none⟩) m c)) b0 (.slice (some ⟨g, 0, none⟩) m c) S') := ⟨(HTD.out.below (Gr.alloc wr (boxS p)).below).keep fun q hq => Below.heap_setCell _ _ _ q (fun e => by
    cases hq
    have h1 := blk_alloc HCUR.out (boxS p)
    have e' : g = T := e
    rw [e', hT1] at h1
    exact absurd (Obj.cells.inj (Option.some.inj h1)).2.1 (by decide))⟩
   have HF3 : Aside0 (((wr.alloc (boxS p)).setCell ⟨T, 0, none⟩ (.slice (some ⟨g, 0, none⟩) m c)).heap[F]? = some (boxF mp)) := ⟨by
    rw [Below.heap_setCell _ _ _ F (fun e => by
     have h1 := blk_alloc HB.out.box (boxS p)
     have e' : F = T := e
     rw [e', hT1] at h1
     exact absurd (Obj.cells.inj (Option.some.inj h1)).2.1 (by decide))]
    exact blk_alloc HB.out.box _⟩
   have HFM3 : Aside0 (FamsIn fb n₀ E ((wr.alloc (boxS p)).setCell ⟨T, 0, none⟩ (.slice (some ⟨g, 0, none⟩) m c)) mp l) := ⟨(HB.out.fam.below (Gr.alloc wr (boxS p)).below).tch (X := fun i => i = T) ⟨rfl, rfl, rfl, by rw [World.size_setCell]; exact Nat.le_refl _, fun i hi hne => Below.heap_setCell _ _ _ i hne⟩ fun i cc t e hc => by
    subst e
    rw [hT1] at hc; cases hc; exact .inr (.inr rfl)⟩
   have HJ3 := Aside0.mk (HM.out k _ _ (HMV3.out.mono (Nat.le_of_eq Hb0.out)) HB.out.j)
   have HLO := Aside0.mk HB.out.low
   obtain ⟨fn, tmps, assign, body, hy, hR⟩ := HY.out k p _ HX.out HJ3.out
   have HRR := Aside0.mk hR
   have hkl : k < (belowOf l dep d).length := (List.getElem?_eq_some_iff.1 HX.out).1
   have HP1 : Aside0 (p.1 ≤ 2000000) := ⟨by
    obtain ⟨V, hV, hp⟩ := HB.out.stk.way p (by simp)
    have h1 := hV.le HS.out
    have h2 := HL.out
    have h3 := HDEP.out
    simp only [List.length_cons] at h1
    omega⟩
   clear hT1 hBT hR
   gi_wp2
   refine HRR.out.mono ?_
   clear q0 q1 q2 q3 q4 q5 q6 cT1 fT1 p0 p1 p2 p3 p4 p5 p6 cT
   rintro e V (⟨rfl, hJ4, hK4⟩ | ⟨rfl, hJx4⟩)
   ·
    have hX4 := hK4.own _ _ _ HX3.out (.inr (.inl rfl))
    have hT4 := hK4.own _ _ _ HT3.out (.inr (.inr rfl))
    have hF4 := hK4.own _ _ _ HF3.out (.inl rfl)
    have hR4 : Todo V b0 (.slice (some ⟨g, 0, none⟩) m c) S' := HR3.out.keep fun q hq => by
     obtain ⟨_, cur, hc⟩ := HR3.out.block hq
     exact (hK4.own _ _ _ hc (.inr (.inl rfl))).trans hc.symm
    have hM4 := HFM3.out.kp hK4.kp
    rw [← HBx.out] at hX4
    have q0 : V.cell? ⟨wr.heap.size, 0, none⟩ = _ := (blk_cell hX4 0).trans rfl
    have q1 : V.cell? ⟨wr.heap.size, 1, none⟩ = _ := (blk_cell hX4 1).trans rfl
    have q6 : V.cell? ⟨wr.heap.size, 6, none⟩ = _ := (blk_cell hX4 6).trans rfl
    have hp1 := HP1.out
    have hwd : wrap64 ((p.1 : Int) + 1) = ((p.1 + 1 : Nat) : Int) := by unfold wrap64; omega
    have HT4 := Aside0.mk hT4
    have HF4 := Aside0.mk hF4
    have HR4 := Aside0.mk hR4
    have HM4 := Aside0.mk hM4
    have HJ4 := Aside0.mk hJ4
    have HLV : Aside0 (b0 ≤ V.heap.size) := ⟨Nat.le_trans (Nat.le_trans HLO.out.2 HMV3.out.size) hK4.kp.1⟩
    clear hX4 hT4 hF4 hR4 hM4 hJ4 hK4 hp1
    gi_wp2
    rw [show ((p.1 : Int) + 1) = ((p.1 + 1 : Nat) : Int) by omega]
    refine ⟨trivial, CallsIn.mono (callsIn_wide.2 (push_call fb b0 mp F T l p.2.f0 (p.1 + 1) S' (.slice (some ⟨g, 0, none⟩) m c) V HM4.out.fams HF4.out HT4.out HR4.out HLV.out HL.out (by have h1 := HST.out.le; have h2 := HLEN.out; rw [List.length_append, List.length_reverse, List.length_map] at h1; omega))) ?_⟩
    rintro e V2 ⟨⟨r2, rfl⟩, u2, hT5, hu5, hro, htc⟩
    have HB5 : Aside0 (BlwF fb n₀ E J mp F T b0 l dep d (k + 1) (S' ++ ((kids l p.2.f0).map fun y => (p.1 + 1, y)).reverse) u2 V2) := ⟨⟨HST.out, hT5, hu5, ⟨HLO.out.1, Nat.le_trans HLV.out htc.size⟩, BlwF.fams HM4.out HT4.out (fun q hq => HR4.out.block hq) htc, push_far HT4.out (fun q hq => HR4.out.block hq) htc HF4.out ⟨by decide, by decide⟩, HM.out (k + 1) V V2 (BlwF.mv (Nat.le_of_eq Hb0.out) HLO.out.1 HT4.out (fun q hq => HR4.out.block hq) htc) HJ4.out⟩⟩
    clear hT5 hu5 hro htc
    gi_wp2
    gi_roundg (gk - 1)
    case measure => omega
    case rel => exact ⟨k + 1, _, u2, by omega, HB5⟩
   ·
    gi_wp2
    refine bodyPost_ret (results_none rfl _ _ _) rfl ?_
    exact ⟨⟨_, rfl⟩, .inr ⟨k + 1, hkl, hJx4⟩⟩
theorem yieldAt_wide {a b : Nat} {P : Program} {l : Nat} {args : Array Value} {W : World} {R : Ending → World → Prop} (h : YieldAt Fence.wide a P l args W R) : YieldAt Fence.wide b P l args W R := by
 obtain ⟨fn, tmps, assign, body, h1, h2, h3⟩ := h
 exact ⟨fn, tmps, assign, body, h1, h2, fun c cs _ => h3 c cs (room_wide _)⟩
set_option maxHeartbeats 1000000 in
set_option maxRecDepth 100000 in
theorem all_moves (fb mp Fb : Nat) (E : Nat → Prop) (l : List Node) (w : World) (hs : Store l) (hl : l.length ≤ 1000000) (hB : w.heap[Fb]? = some (boxF mp)) (hF : Fams fb w mp l)
  (hE : ∀ (i : Nat) (c : Array Value) (t : Nat), E i → w.heap[i]? = some (.cells c t (0, 0)) → t = 22 ∨ t = 70 ∨ t = 3) :
  ListRange.Moves Fence.wide 9 Tryz.prog 119 #[.pointer (some ⟨Fb, 0, none⟩)] (fun x : Nat × Node => #[.int .i64 (x.1 : Int), vNode x.2]) (KpT w.heap.size E) ownT (ordOf l) w := by
 have HFI : Aside0 (FamsIn fb w.heap.size E w mp l) := ⟨FamsIn.of hF (Nat.le_refl _) fun i c t he hc => by rcases hE i c t he hc with rfl | rfl | rfl <;> decide⟩
 have HS := Aside0.mk hs
 have HL := Aside0.mk hl
 have HB := Aside0.mk hB
 clear hs hl hB hF hE
 intro lp J Jx W hWW hJ hJx hY h0
 have HJ := Aside0.mk hJ
 have HY := Aside0.mk hY
 have H0 := Aside0.mk h0
 have HW := Aside0.mk hWW
 have hb := blk_keep HB.out hWW
 have cF : W.cell? ⟨Fb, 0, none⟩ = _ := (blk_cell hb 0).trans rfl
 have HLE : Aside0 ((belowOf l 0 ⟨0, 0⟩).length ≤ 1000000) := ⟨Nat.le_trans (ord_le HS.out) HL.out⟩
 clear hJ hJx hY h0 hWW hb
 refine callsIn_of_wp Tryz.func119 rfl trivial ?_ rfl
 simp only [Tryz.ntmps119, List.size_toArray, List.length_cons, List.length_nil, Nat.reduceAdd, Nat.reduceSub, Array.replicate_succ, Array.replicate_zero, List.push_toArray, List.append_toArray, List.nil_append, List.cons_append]
 gi_wp2
 refine ⟨trivial, CallsIn.mono (below_in 8 lp fb w.heap.size mp E l ⟨0, 0⟩ 0 [] (by decide) HS.out Path.root HL.out HLE.out (by decide) J Jx W HJ.out (fun k x V hx hj => yieldAt_wide (HY.out k x V hx hj)) (HFI.out.below HW.out) H0.out) ?_⟩
 rintro e V ⟨⟨r, rfl⟩, h⟩
 gi_wp2
 go_end0
 exact ⟨⟨_, rfl⟩, h⟩
set_option maxHeartbeats 1000000 in
set_option maxRecDepth 100000 in
theorem all_fn (A0 : Option Addr) (n c0 : Nat) (l0 : List Node) (w : World) (hn : l0.length = n) (hr0 : Kd.C k53 w A0 n l0) (hc0 : n ≤ c0) (hl : l0.length ≤ 1000000) :
  Calls Tryz.prog 104 #[.slice A0 n c0] w fun e w' => ∃ Fb mp, e = .returned (.func (.func 119) #[] #[.pointer (some ⟨Fb, 0, none⟩)]) ∧ w'.heap[Fb]? = some (boxF mp) ∧ Fams w.heap.size w' mp (if storeOk l0 then l0 else []) ∧ Below w.heap.size w w' := by
 obtain ⟨b, Hb⟩ : ∃ b, Aside0 (storeOk l0 = b) := ⟨_, ⟨rfl⟩⟩
 have hval := store_Valid.calls A0 c0 l0 b w (by rw [hn]; exact hr0) (by rw [hn]; exact hc0) (by unfold store_Valid.f; rw [if_pos hl, Hb.out])
 rw [hn] at hval
 have HV := Aside0.mk hval
 have HR := Aside0.mk hr0
 have HC := Aside0.mk hc0
 have HL := Aside0.mk hl
 have Hn := Aside0.mk hn
 rw [Hb.out]
 clear hval hr0 hc0 hl hn
 go_enter Tryz.func104, Tryz.ntmps104
 go_wp2_with fail
 refine HV.out.mono ?_
 rintro e w1 ⟨rfl, hb⟩
 have HB := Aside0.mk hb
 clear hb
 cases b with
 | true =>
  have HM := made_call A0 c0 l0 w1 (by rw [Hn.out]; exact Kd.C_below HR.out HB.out) (by rw [Hn.out]; exact HC.out) HL.out (store_of Hb.out)
  rw [Hn.out] at HM
  have HM := Aside0.mk HM
  go_wp2_with fail
  refine HM.out.mono ?_
  rintro e w2 ⟨mp, rfl, hf, hb2⟩
  have HF := Aside0.mk (hf.lower HB.out.size)
  have HB2 := Aside0.mk (below_more HB.out hb2)
  clear hf hb2
  go_wp2
  go_ret
  exact ⟨_, rfl, mp, blk_new _ _, HF.out.below (Gr.alloc _ _).below, below_alloc HB2.out _⟩
 | false =>
  have HM := Aside0.mk (made_call none 0 [] w1 ⟨rfl, by simp, fun h => absurd h (by simp)⟩ (Nat.le_refl _) (by simp) ⟨fun x hx => (by cases hx), List.Pairwise.nil⟩)
  go_wp2_with fail
  refine HM.out.mono ?_
  rintro e w2 ⟨mp, rfl, hf, hb2⟩
  have HF := Aside0.mk (hf.lower HB.out.size)
  have HB2 := Aside0.mk (below_more HB.out hb2)
  clear hf hb2
  go_wp2
  go_ret
  exact ⟨_, rfl, mp, blk_new _ _, HF.out.below (Gr.alloc _ _).below, below_alloc HB2.out _⟩
end Go.Proofs.YtmbndijbpgobeaaGreat.PWalk
end
section
namespace Go.AnyOrder
end Go.AnyOrder
end
section
namespace Go.Proofs.YtmbndijbpgobeaaGreat.PWalk
open Go.RowKit Go.Proofs.YtmbndijbpgobeaaGreatW.PrintWords Go.Proofs.YtmbndijbpgobeaaGreatW.PrintLast Go.Proofs.YtmbndijbpgobeaaGreatW.PrintMore
set_option linter.unusedVariables false
set_option linter.unusedSimpArgs false
open Go.Shelf
attribute [local go_sem] Oper.semAt_some
def dotCells (d : Dot) : List Value := [.int .i64 d.f0, .int .i64 d.f1]
def dcellsOf (l : List Dot) : List Value := l.flatMap dotCells
theorem dcellsOf_length (l : List Dot) : (dcellsOf l).length = l.length * 2 := by
 induction l with
 | nil => rfl
 | cons x l ih => rw [dcellsOf, List.flatMap_cons, List.length_append, ← dcellsOf, ih]; simp [dotCells]; omega
theorem dcellsOf_drop_take (l : List Dot) (j : Nat) (x : Dot) (h : l[j]? = some x) : ((dcellsOf l).drop (j * 2)).take 2 = dotCells x := by
 induction l generalizing j with
 | nil => simp at h
 | cons y l ih =>
  cases j with
  | zero => simp at h; subst h; simp [dcellsOf, dotCells]
  | succ j =>
   simp at h
   rw [show (j + 1) * 2 = 2 + j * 2 from by omega, dcellsOf, List.flatMap_cons, ← dcellsOf, ← List.drop_drop, List.drop_left' (by simp [dotCells])]
   exact ih j h
theorem dreps_cells {R : Dot → List Value → Prop} (l : List Dot) (hR : ∀ x, R x (dotCells x)) : Reps R 2 l (dcellsOf l) :=
 ⟨dcellsOf_length l, fun j p hj => by rw [dcellsOf_drop_take l j p hj]; exact hR p⟩
theorem dcells_of_reps {R : Dot → List Value → Prop} (l : List Dot) (cs : List Value) (h : Reps R 2 l cs) (hR : ∀ x c, R x c → c = dotCells x) : cs = dcellsOf l := by
 induction l generalizing cs with
 | nil => have := h.1; simp at this; subst this; rfl
 | cons x l ih =>
  obtain ⟨h1, h2⟩ := h
  have h0 := hR _ _ (h2 0 x rfl)
  simp only [Nat.zero_mul, List.drop_zero] at h0
  have ht : Reps R 2 l (cs.drop 2) := ⟨by rw [List.length_drop, h1]; simp; omega, fun j p hj => by
   have := h2 (j + 1) p (by simpa using hj)
   rw [List.drop_drop, show 2 + j * 2 = (j + 1) * 2 from by omega]; exact this⟩
  rw [dcellsOf, List.flatMap_cons, ← dcellsOf, ← ih _ ht, ← h0, List.take_append_drop]
abbrev RD (W : World) (base : Nat) (u : Value) (xs : List Dot) : Prop := Kd.R k25 25 W base (fun _ => True) u xs
theorem RD_of_cells {w : World} {base : Nat} {v : Value} {l : List Dot} (h : w.ownsRow base 25 2 v l.length (dcellsOf l)) : RD w base v l :=
 ⟨fun _ _ => trivial, dcellsOf l, h, dreps_cells l fun x => k25_mkM _ _ _ x⟩
theorem dcells_of_R {w : World} {base : Nat} {ok : Nat → Prop} {v : Value} {l : List Dot} (h : Kd.R k25 25 w base ok v l) : w.ownsRow base 25 2 v l.length (dcellsOf l) := by
 obtain ⟨_, inner, ho, hr⟩ := h
 rw [← dcells_of_reps l inner hr fun x c hx => k25_openM hx]
 exact ho
theorem RD.block {W : World} {base : Nat} {u : Value} {xs : List Dot} (h : RD W base u xs) {g : Nat} (hg : u.ownBlock = some g) : base ≤ g ∧ ∃ cur, W.heap[g]? = some (.cells cur 25 (0, 0)) := by
 rcases (dcells_of_R h).2 with ⟨rfl, _⟩ | ⟨g', c, cur, rfl, hb, hcur, _⟩
 ·
  cases hg
 ·
  cases hg; exact ⟨hb, cur, hcur⟩
theorem RD.slice {W : World} {base : Nat} {u : Value} {xs : List Dot} (h : RD W base u xs) : ∃ A c, u = .slice A xs.length c := ownsRow_slice (dcells_of_R h)
theorem RN.slice {W : World} {base : Nat} {u : Value} {xs : List Node} (h : RN W base u xs) : ∃ A c, u = .slice A xs.length c := ownsRow_slice (cells_of_R h)
theorem infoD : (Tryz.prog.info? 25).map (fun i => (i.zero, i.size, i.bytes)) = some (some (.agg #[(.int .i64 0), (.int .i64 0)]), 2, 16) := by kernel_rfl
theorem info_get {P : Program} {t : TypeId} {z : Option Value} {s b : Nat} (h : (P.info? t).map (fun i => (i.zero, i.size, i.bytes)) = some (z, s, b)) : ∃ i, P.info? t = some i ∧ i.zero = z ∧ i.size = s ∧ i.bytes = b := by
 rcases hi : P.info? t with _ | i
 ·
  rw [hi] at h; cases h
 ·
  rw [hi] at h
  simp only [Option.map_some, Option.some.injEq, Prod.mk.injEq] at h
  exact ⟨i, rfl, h⟩
theorem run_append_node (base : Nat) (ty : TypeId) (u : Value) (xs : List Node) (x : Node) (g c : Nat) (w : World) (hu : RN w base u xs) (hg : w.heap[g]? = some (boxN x)) (hb : base ≤ w.heap.size) (hl : xs.length + 1 ≤ 1000001) :
  ∃ u' w', (Builtin.append_ #[22, 22] ty #[u, .slice (some ⟨g, 0, none⟩) 1 c]).run Tryz.prog w = .ok u' w' ∧ RN w' base u' (xs ++ [x]) ∧ w.grownBy w' u.ownBlock ∧ (u'.ownBlock = u.ownBlock ∨ u'.ownBlock = some w.heap.size) := by
 obtain ⟨i, hi, hz1, hz2, hz3⟩ := info_get infoN
 obtain ⟨v', w', h1, h2, h3, _, h4⟩ := run_append_own_at (P := Tryz.prog) w base 22 ty 53 i _ 6 48 Tryz.underlying22 hi hz1 hz2 hz3 rfl (by decide) u xs.length (cellsOf xs) (cells_of_R hu) ⟨g, 0, none⟩ 1 c (nodeCells x) rfl
  (fun j v hv => by rw [add_lit, blk_cell hg, Nat.zero_add, List.getElem?_toArray]; exact hv) (fun v hv => one_cells [x] v (by simpa [cellsOf] using hv)) (by simp only [maxLen]; omega) (by omega) hb
 refine ⟨v', w', h1, R_of_cells ?_ (fun _ _ => trivial), h3, h4⟩
 rw [cellsOf_append, List.length_append, show cellsOf [x] = nodeCells x by simp [cellsOf]]
 exact h2
def nds (L : List (Nat × Node)) : List Node := L.map (fun p => p.2)
abbrev outN (u : Value) : Obj := .cells #[u] 22 (0, 0)
theorem far_setCell {W : World} {O : Nat} {i j : Nat} {v : Value} (h : j ≠ O) : (W.setCell ⟨O, i, none⟩ v).heap[j]? = W.heap[j]? := Below.heap_setCell W _ _ j h
/-- The nodes that come, put into one row. -/
structure CollN (w : World) (b O : Nat) (xs : List Node) (W : World) : Prop where
 out : ∃ u, W.heap[O]? = some (outN u) ∧ RN W b u xs
 below : Below w.heap.size w W
theorem CollN.mv {w : World} {b c O : Nat} {xs : List Node} {W V : World} (h : CollN w b O xs W) (hm : ListRange.Mv ownT c W V) (hc : w.heap.size ≤ c) : CollN w b O xs V := by
 obtain ⟨⟨u, h1, h2⟩, h3⟩ := h
 exact ⟨⟨u, hm.far h1 (by decide), h2.keep fun g hg => by
  obtain ⟨_, cur, hcur⟩ := h2.block hg
  exact (hm.far hcur (by decide)).trans hcur.symm⟩, hm.on h3 hc⟩
theorem CollN.walk {w : World} {b O : Nat} {xs : List Node} {W V : World} (h : CollN w b O xs W) {row : Option Nat} (hg : W.grownBy V row) (hr : ∀ r, row = some r → w.heap.size ≤ r ∧ ∃ o : Obj, W.heap[r]? = some o ∧ o.isCells = false) : CollN w b O xs V := by
 obtain ⟨⟨u, h1, h2⟩, h3⟩ := h
 have hnc : ∀ q cells t, W.heap[q]? = some (Obj.cells cells t (0, 0)) → V.heap[q]? = some (Obj.cells cells t (0, 0)) := fun q cells t hq => (hg.block q (blk_lt hq) (fun e => by obtain ⟨_, o, ho, hc⟩ := hr q e.symm; rw [hq] at ho; cases ho; cases hc)).trans hq
 exact ⟨⟨u, hnc O _ _ h1, h2.keep fun g hgg => by obtain ⟨_, cur, hcur⟩ := h2.block hgg; exact (hnc _ _ _ hcur).trans hcur.symm⟩, h3.grown hg h3.size (fun k e => (hr k e).1)⟩
theorem CollN.more {w : World} {b O : Nat} {xs : List Node} {W V : World} (h : CollN w b O xs W) (hb : Below W.heap.size W V) : CollN w b O xs V := by
 obtain ⟨⟨u, h1, h2⟩, h3⟩ := h
 exact ⟨⟨u, blk_keep h1 hb, h2.below' hb⟩, below_more h3 hb⟩
/-- The end of a round: the box is stored. -/
theorem CollN.put {w : World} {n₀ O : Nat} {xs ys : List Node} {W1 V V2 : World} {u u2 : Value} (hn : w.heap.size ≤ n₀) (hOl : w.heap.size ≤ O) (h1 : W1.heap[O]? = some (outN u)) (h2 : RN W1 n₀ u xs) (h3 : Below w.heap.size w W1)
  (hV : Gr W1 V) (hg : V.grownBy V2 u.ownBlock) (hr : RN V2 n₀ u2 ys) (hat : u2.ownBlock = u.ownBlock ∨ u2.ownBlock = some V.heap.size) (hnW : n₀ ≤ W1.heap.size) :
  KeepsFrom n₀ W1 (V2.setCell ⟨O, 0, none⟩ u2) ∧ KpT n₀ (fun i => i = O) W1 (V2.setCell ⟨O, 0, none⟩ u2) ∧ CollN w n₀ O ys (V2.setCell ⟨O, 0, none⟩ u2) := by
 have hOne : some O ≠ u.ownBlock := fun e => by
  obtain ⟨_, cur, hc⟩ := h2.block e.symm
  rw [h1] at hc
  exact absurd (Obj.cells.inj (Option.some.inj hc)).2.1 (by decide)
 have hO2 : V2.heap[O]? = some (outN u) := (hg.block O (Nat.lt_of_lt_of_le (blk_lt h1) hV.below.size) hOne).trans (hV.blk h1)
 have hsz : W1.heap.size ≤ V2.heap.size := Nat.le_trans hV.below.size hg.size
 have hkeep : ∀ q, q < W1.heap.size → q ≠ O → u.ownBlock ≠ some q → (V2.setCell ⟨O, 0, none⟩ u2).heap[q]? = W1.heap[q]? := fun q hq h4 h5 => by
  rw [far_setCell h4, hg.block q (Nat.lt_of_lt_of_le hq hV.below.size) (fun e => h5 e.symm)]
  exact hV.below.block q hq
 have hnr : ∀ q o, W1.heap[q]? = some o → (∀ c, o ≠ .cells c 53 (0, 0)) → u.ownBlock ≠ some q := fun q o hq ho e => by
  obtain ⟨_, cur, hc⟩ := h2.block e
  rw [hq] at hc
  exact ho _ (Option.some.inj hc)
 have hno : ∀ q o, W1.heap[q]? = some o → (∀ c, o ≠ .cells c 22 (0, 0)) → q ≠ O := fun q o hq ho e => by
  subst e
  rw [h1] at hq
  exact ho _ (Option.some.inj hq).symm
 refine ⟨⟨by rw [World.size_setCell]; exact hsz, fun q o hB hq hoc => (hkeep q (blk_lt hq) (hno q o hq fun c e => by subst e; cases hoc) (hnr q o hq fun c e => by subst e; cases hoc)).trans hq⟩,
  ⟨⟨by rw [World.size_setCell]; exact hsz, fun q hq hE => hkeep q (Nat.lt_of_lt_of_le hq hnW) hE (fun e => by have := (h2.block e).1; omega)⟩, fun q c t hq ht => (hkeep q (blk_lt hq) (hno q _ hq fun c' e => by cases e; revert ht; decide) (hnr q _ hq fun c' e => by cases e; revert ht; decide)).trans hq⟩,
  ⟨u2, blk_set hO2 0 _, hr.keep fun g hgg => far_setCell fun e => ?_⟩, ?_⟩
 ·
  subst e
  obtain ⟨_, cur, hc⟩ := hr.block hgg
  rw [hO2] at hc
  exact absurd (Obj.cells.inj (Option.some.inj hc)).2.1 (by decide)
 ·
  exact below_setCell ((below_more h3 hV.below).grown hg (below_more h3 hV.below).size (fun k e => Nat.le_trans hn (h2.block e).1)) hOl 0 u2
set_option maxHeartbeats 2000000 in
set_option maxRecDepth 100000 in
theorem walk_Order.calls (A0 : Option Addr) (c0 : Nat) (ll : List Node) (r0 : List Node) (r1 : Int) (w : World) (hr0 : Kd.C k53 w A0 ll.length ll) (hc0 : ll.length ≤ c0) (h : walk_Order.f ll = some (r0, r1)) :
  Calls Tryz.prog 87 #[.slice A0 ll.length c0] w fun e w' => ∃ v0_ : Value, e = .returned (.tuple #[v0_, .int .i64 r1]) ∧ Kd.R k53 53 w' w.heap.size (fun _ => True) v0_ r0 ∧ Below w.heap.size w w' := by
 unfold walk_Order.f at h
 by_cases hl : ll.length ≤ 1000000
 rotate_left
 ·
  rw [if_neg hl] at h; cases h
 rw [if_pos hl] at h
 have HR := Aside0.mk hr0
 have HC := Aside0.mk hc0
 have HL := Aside0.mk hl
 have HH := Aside0.mk (Option.some.inj h)
 clear h hr0 hc0 hl
 obtain ⟨n, Hn⟩ : ∃ n, Aside0 (ll.length = n) := ⟨_, ⟨rfl⟩⟩
 obtain ⟨b, Hb⟩ : ∃ b, Aside0 (storeOk ll = b) := ⟨_, ⟨rfl⟩⟩
 have hval := store_Valid.calls A0 c0 ll b w HR.out HC.out (by unfold store_Valid.f; rw [if_pos HL.out, Hb.out])
 rw [Hn.out] at hval ⊢
 have HV := Aside0.mk hval
 clear hval
 refine calls_of_wp_m Tryz.func87 rfl ?_
 simp only [Tryz.ntmps87, List.size_toArray, List.length_cons, List.length_nil, Nat.reduceAdd, Nat.reduceSub, Array.replicate_succ, Array.replicate_zero, List.push_toArray, List.append_toArray, List.nil_append, List.cons_append]
 go_wp2_with fail
 refine HV.out.mono ?_
 rintro e w1 ⟨rfl, hb⟩
 have HB := Aside0.mk hb
 clear hb HV
 cases b with
 | false =>
  have hrr : r0 = [] ∧ r1 = 2 := by
   have := HH.out
   rw [if_neg (by rw [Hb.out]; simp)] at this
   exact ⟨(Prod.mk.inj this).1.symm, (Prod.mk.inj this).2.symm⟩
  obtain ⟨rfl, rfl⟩ := hrr
  go_wp2
  exact ⟨_, results_tmp2 rfl _ _ _, _, rfl, Kd.R_nil _ _ _ _ _, HB.out⟩
 | true =>
  have hrr : r0 = nds (ordOf ll) ∧ r1 = 0 := by
   have := HH.out
   rw [if_pos Hb.out] at this
   exact ⟨(Prod.mk.inj this).1.symm, (Prod.mk.inj this).2.symm⟩
  obtain ⟨rfl, rfl⟩ := hrr
  have hO := blk_new w1 (outN (.slice none 0 0))
  have HAF := Aside0.mk (all_fn A0 n c0 ll (w1.alloc (outN (.slice none 0 0))) Hn.out (by rw [← Hn.out]; exact Kd.C_below HR.out (below_alloc HB.out _)) (by rw [← Hn.out]; exact HC.out) HL.out)
  have HO := Aside0.mk hO
  clear hO
  go_wp2_with fail
  refine HAF.out.mono ?_
  rintro e w2 ⟨Fb, mp, rfl, hF, hfam, hb⟩
  rw [if_pos Hb.out] at hfam
  have HO2 := Aside0.mk (blk_keep HO.out hb)
  have HF2 := Aside0.mk hF
  have HFM := Aside0.mk hfam
  have HB2 := Aside0.mk (below_more (below_alloc HB.out _) hb)
  have HOW : Aside0 (w.heap.size ≤ w1.heap.size ∧ w1.heap.size < w2.heap.size) := ⟨HB.out.size, blk_lt HO2.out⟩
  clear hF hfam hb HO HAF HB
  obtain ⟨O, HOe⟩ : ∃ O, Aside0 (w1.heap.size = O) := ⟨_, ⟨rfl⟩⟩
  rw [HOe.out] at HO2 HOW ⊢
  go_wp2_with fail
  have HS : Aside0 (Store ll) := ⟨store_of Hb.out⟩
  refine wpIn_wide.1 (ListRange.wpIn_move (n := 10) (F := Fence.wide) rfl (by decide) (gf := 119) (lb := #[.pointer (some ⟨Fb, 0, none⟩)]) rfl trivial Tryz.call119
   (encs := fun x : Nat × Node => #[.int .i64 (x.1 : Int), vNode x.2]) (Kp := KpT w2.heap.size (fun i => i = O)) (L := ordOf ll) (w0 := w2) ownT
   (all_moves _ mp Fb (fun i => i = O) ll w2 HS.out HL.out HF2.out HFM.out (fun i c t e hc => by subst e; rw [HO2.out] at hc; cases hc; exact .inl rfl))
   (fun h k => h.trans k) (fun W l o o' hl ho hc _ => KpT.put (Nat.le_refl _) W l o o' hl ho hc) (Below.refl _ _) (fun _ => rfl)
   (fun k W => CollN w w2.heap.size O (nds ((ordOf ll).take k)) W ∧ w2.heap.size ≤ W.heap.size)
   (fun _ _ _ => False)
   (fun k W W' row hs hg hr => ⟨hs.1.walk hg (fun r e => ⟨Nat.le_trans HB2.out.size (hr r e).1, (hr r e).2⟩), Nat.le_trans hs.2 hg.size⟩) (fun _ _ _ _ _ hs _ _ => hs)
   (fun k A B hm hs => ⟨hs.1.mv hm HB2.out.size, Nat.le_trans hs.2 hm.size⟩) (fun _ _ _ _ _ hs => hs)
   ⟨⟨⟨_, HO2.out, Kd.R_nil _ _ _ _ _⟩, HB2.out⟩, Nat.le_refl _⟩
   (fun x a' W => ∃ Nb, w2.heap.size ≤ Nb ∧ W.heap[Nb]? = some (boxN x.2) ∧ a' = { tmps := #[.slice A0 n c0, undef, .slice none 0 0, .int .i64 0, .pointer (some ⟨O, 0, none⟩), undef, .pointer (some ⟨Nb, 0, none⟩), .slice A0 n c0, .bool true, .bool false, .slice A0 n c0, .func (.func 119) #[] #[.pointer (some ⟨Fb, 0, none⟩)], .int .i64 (x.1 : Int), vNode x.2, undef, undef, undef, undef, undef], defers := [] })
   (fun x a' _ W W' row hs hg hr => by
    obtain ⟨Nb, h1, h2, h3⟩ := hs
    exact ⟨Nb, h1, (hg.block Nb (blk_lt h2) (fun e => by obtain ⟨_, o, ho, hc⟩ := hr Nb e.symm; rw [h2] at ho; cases ho; cases hc)).trans h2, h3⟩)
   ?assign ?body ?done ?stop)
  case assign =>
   rintro lp k x W K hx ⟨h1, h2⟩ hK
   gi_wp2
   exact hK _ _ ((KeepsOthers.alloc _ _).from _) (KpT.below (Gr.alloc W _).below h2) ⟨h1.more (Gr.alloc W _).below, Nat.le_trans h2 (by rw [World.size_alloc]; omega)⟩ ⟨W.heap.size, h2, blk_new _ _, rfl⟩
  case body =>
   rintro lp k x a' W hx hl2 ⟨rr, hrr⟩ ⟨⟨⟨u, h1, h2⟩, h3⟩, h4⟩ ⟨Nb, hx1, hx2, rfl⟩
   have hlen : (nds ((ordOf ll).take k)).length ≤ 1000000 := by unfold nds; rw [List.length_map, List.length_take]; exact Nat.le_trans (Nat.min_le_right _ _) (Nat.le_trans (ord_le HS.out) HL.out)
   obtain ⟨u2, w3, hrun, hrd, hgr, hat⟩ := run_append_node w2.heap.size 22 u _ x.2 W.heap.size 1 (W.alloc (boxN x.2)) (h2.below' (Gr.alloc W _).below) (blk_new _ _) (Nat.le_trans h4 (by rw [World.size_alloc]; omega)) (by omega)
   have hput := CollN.put HB2.out.size (Nat.le_trans HOW.out.1 (Nat.le_refl _)) h1 h2 h3 (Gr.alloc W _) hgr hrd hat h4
   have hO3 : w3.heap[O]? = some (outN u) := (hgr.block O (Nat.lt_of_lt_of_le (blk_lt h1) (Gr.alloc W (boxN x.2)).below.size) (fun e => by
    obtain ⟨_, cur, hc⟩ := h2.block e.symm
    rw [h1] at hc
    exact absurd (Obj.cells.inj (Option.some.inj hc)).2.1 (by decide))).trans (blk_alloc h1 _)
   have HTK : Aside0 (nds ((ordOf ll).take (k + 1)) = nds ((ordOf ll).take k) ++ [x.2]) := ⟨by
    have hk := (List.getElem?_eq_some_iff.1 hx).1
    unfold nds
    rw [List.take_succ_eq_append_getElem hk, (List.getElem?_eq_some_iff.1 hx).2, List.map_append]; rfl⟩
   obtain ⟨A, c, rfl⟩ := h2.slice
   obtain ⟨A2, c2, rfl⟩ := hrd.slice
   obtain ⟨m, hm⟩ : ∃ m, (nds ((ordOf ll).take k)).length = m := ⟨_, rfl⟩
   obtain ⟨m2, hm2⟩ : ∃ m2, (nds ((ordOf ll).take k) ++ [x.2]).length = m2 := ⟨_, rfl⟩
   rw [hm] at h1 h2 hrun hgr hat hO3
   rw [hm2] at hrun hrd hat hput
   clear hm hm2
   have cO : W.cell? ⟨O, 0, none⟩ = _ := (blk_cell h1 0).trans rfl
   have n0 : W.cell? ⟨Nb, 0, none⟩ = _ := (blk_cell hx2 0).trans rfl
   have n1 : W.cell? ⟨Nb, 1, none⟩ = _ := (blk_cell hx2 1).trans rfl
   have n2 : W.cell? ⟨Nb, 2, none⟩ = _ := (blk_cell hx2 2).trans rfl
   have n3 : W.cell? ⟨Nb, 3, none⟩ = _ := (blk_cell hx2 3).trans rfl
   have n4 : W.cell? ⟨Nb, 4, none⟩ = _ := (blk_cell hx2 4).trans rfl
   have n5 : W.cell? ⟨Nb, 5, none⟩ = _ := (blk_cell hx2 5).trans rfl
   have cO3 : w3.cell? ⟨O, 0, none⟩ = _ := (blk_cell hO3 0).trans rfl
   have fO3 := blk_frozen hO3 0
   have HRUN := Aside0.mk hrun
   have HPUT := Aside0.mk hput
   have HSZ3 : Aside0 (w2.heap.size ≤ w3.heap.size) := ⟨Nat.le_trans (Nat.le_trans h4 (Gr.alloc W (boxN x.2)).below.size) hgr.size⟩
   clear h1 h2 h3 h4 hx hx1 hx2 hrun hrd hgr hat hput hO3 hlen
   obtain ⟨x0, x1⟩ := x
   dsimp only at n0 n1 n2 n3 n4 n5 ⊢
   gi_wp2_with (gi_at_builtin; refine wpListIn_append_eq rfl (.tmp 14) (.tmp 16) 22 rfl rfl rfl HRUN.out ?_)
   exact ⟨HPUT.out.1, HPUT.out.2.1, by rw [HTK.out]; exact HPUT.out.2.2, by rw [World.size_setCell]; exact HSZ3.out⟩
  case done =>
   rintro D W hD ⟨h1, h2⟩ hDK
   rw [List.take_length] at h1
   obtain ⟨⟨u, hO, hr⟩, hbl⟩ := h1
   obtain ⟨A, c, rfl⟩ := hr.slice
   obtain ⟨m, hm⟩ : ∃ m, (nds (ordOf ll)).length = m := ⟨_, rfl⟩
   rw [hm] at hO hr
   clear hm
   have cO : W.cell? ⟨O, 0, none⟩ = _ := (blk_cell hO 0).trans rfl
   have HEND : Aside0 (RN W w.heap.size (.slice A m c) (nds (ordOf ll)) ∧ Below w.heap.size w W ∧ W.heap[D]? = some (.deferred (some [])) ∧ w.heap.size ≤ D) := ⟨Kd.R_lower hr HB2.out.size, hbl, hDK, Nat.le_trans HB2.out.size hD⟩
   clear hO hr hbl hDK hD h2
   go_wp2
   refine leaves_of_marks2 (n0 := w.heap.size) [mkMark D] _ ⟨[D], rfl, by simp, fun E hE => ?_⟩ (fun W' hm => ⟨_, results_tmp2 rfl _ _ W', _, rfl, R_onlyMarks HEND.out.1 hm, below_onlyMarks HEND.out.2.1 hm⟩)
   simp only [List.mem_singleton] at hE
   subst hE
   exact ⟨HEND.out.2.2.2, HEND.out.2.2.1⟩
  case stop =>
   rintro D c k W _ _ h _
   exact h.elim
theorem RD.below' {W V : World} {base : Nat} {u : Value} {xs : List Dot} (h : RD W base u xs) (hb : Below W.heap.size W V) : RD V base u xs := Kd.R_below h hb
theorem dcellsOf_get (l : List Dot) (j : Nat) (u : Value) (h : (dcellsOf l)[j]? = some u) : ∃ x, l[j / 2]? = some x ∧ (dotCells x)[j % 2]? = some u := by
 have hj : j < l.length * 2 := by rw [← dcellsOf_length]; exact (List.getElem?_eq_some_iff.1 h).1
 have hd : j / 2 < l.length := by omega
 refine ⟨l[j / 2], List.getElem?_eq_getElem hd, ?_⟩
 rw [← dcellsOf_drop_take l (j / 2) _ (List.getElem?_eq_getElem hd), List.getElem?_take, if_pos (by omega), List.getElem?_drop, show j / 2 * 2 + j % 2 = j from by omega]
 exact h
theorem DC_cells {w : World} {A : Option Addr} {n : Nat} {xs : List Dot} (h : Kd.C k25 w A n xs) (hp : 0 < n) : ∃ ad, A = some ad ∧ ∀ j u, (dcellsOf xs)[j]? = some u → w.cell? (ad.add j) = some u := by
 obtain ⟨hl, _, hc⟩ := h
 obtain ⟨ad, e, hc⟩ := hc hp
 refine ⟨ad, e, fun j u hu => ?_⟩
 obtain ⟨x, hx, hu⟩ := dcellsOf_get xs j u hu
 obtain ⟨c, _, hK, hcell⟩ := hc _ _ hx
 have hcx : c = dotCells x := k25_open hK
 subst hcx
 have h2 := hcell _ _ hu
 have e2 : j / 2 * (k25).sz + j % 2 = j := (show j / 2 * 2 + j % 2 = j by omega)
 rw [e2] at h2
 exact h2
theorem done_cells (l : List Dot) : ∀ u ∈ dcellsOf l, u.oneCell' = true := by
 intro u hu
 unfold dcellsOf at hu
 rw [List.mem_flatMap] at hu
 obtain ⟨x, _, hx⟩ := hu
 simp [dotCells] at hx
 rcases hx with rfl | rfl <;> rfl
set_option maxHeartbeats 400000 in
set_option maxRecDepth 100000 in
theorem CloneDot.calls (A0 : Option Addr) (c0 : Nat) (l0 : List Dot) (w : World) (hr0 : Kd.C k25 w A0 l0.length l0) (hl : l0.length ≤ 1000000) :
  Calls Tryz.prog 73 #[.slice A0 l0.length c0] w fun e w' => ∃ v0_ : Value, e = .returned v0_ ∧ Kd.R k25 25 w' w.heap.size (fun _ => True) v0_ l0 ∧ Below w.heap.size w w' := by
 cases A0 with
 | none =>
  have hz : l0 = [] := by
   cases l0 with
   | nil => rfl
   | cons x l => obtain ⟨ad, e, _⟩ := DC_cells hr0 (by simp); cases e
  subst hz
  have hq := fun (W : World) => Lib.run_eql_slice_nil_nil (P := Tryz.prog) W 0 c0 Tryz.underlying70
  clear hr0
  go_enter Tryz.func73, Tryz.ntmps73
  go_wp2
  go_ret
  exact ⟨_, rfl, Kd.R_nil _ _ _ _ _, Below.refl _ _⟩
 | some ad =>
  have hq := fun (W : World) => Lib.run_eql_slice_some_nil (P := Tryz.prog) W ad l0.length c0 Tryz.underlying70
  have HR := Aside0.mk hr0
  obtain ⟨i0, hi, hz0, hz1, hz2⟩ := info_parts infoD
  have hz := Tryz.zeroValue25
  have hlen := dcellsOf_length l0
  have hcells : Aside0 (∀ j u, (dcellsOf l0)[j]? = some u → w.cell? (ad.add j) = some u) := ⟨by
   intro j u hu
   by_cases hp : 0 < l0.length
   ·
    obtain ⟨ad', e, h⟩ := DC_cells hr0 hp
    cases e; exact h j u hu
   ·
    have : l0 = [] := by cases l0 <;> simp_all
    subst this; simp [dcellsOf] at hu⟩
  clear hr0
  go_enter Tryz.func73, Tryz.ntmps73
  go_wp2_with (at_builtin; go_loud (refine wpList_append_own _ rfl (.tmp 5) (.tmp 6) 70 rfl w.heap.size 25 i0 _ 2 16 Tryz.underlying70 hi hz0 hz1 hz2 rfl (by decide) _ 0 [] rfl (World.ownsRow_lit w #[] 0 (Nat.le_refl _) (by decide) rfl) ad l0.length c0 (dcellsOf l0) rfl hlen ?c1 (done_cells l0) ?c2 ?c3 ?c4 ?_); (case c1 => exact fun j u hu => pw_cell_below (below_alloc (Below.refl _ _) _) (hcells.out j u hu)); (case c2 => unfold maxLen; omega); (case c3 => omega); (case c4 => simp); intro v' w' ho hg hn)
  go_ret
  exact ⟨_, rfl, RD_of_cells (by simpa using ho), (below_alloc (Below.refl _ _) _).grown hg (by simp) (fun k e => by cases (show some w.heap.size = some k from e); exact Nat.le_refl _)⟩
end Go.Proofs.YtmbndijbpgobeaaGreat.PWalk
end
section
namespace Go.Proofs.YtmbndijbpgobeaaGreat.PWalk
open Go.RowKit Go.Proofs.YtmbndijbpgobeaaGreatW.PrintWords Go.Proofs.YtmbndijbpgobeaaGreatW.PrintLast Go.Proofs.YtmbndijbpgobeaaGreatW.PrintMore
set_option linter.unusedVariables false
set_option linter.unusedSimpArgs false
open Go.Shelf
attribute [local go_sem] Oper.semAt_some
structure DfSt {α : Type} (q : α → Bool) (l : List α) (i j : Nat) (dk : List α) : Prop where
 len : dk.length = l.length
 lt : i < j
 le : j ≤ l.length
 low : dk.take i = (l.take j).filter q
 high : dk.drop j = l.drop j
theorem DfSt.start {α : Type} {q : α → Bool} {l : List α} {k : Nat} {x : α} (hx : l[k]? = some x) (hq : q x = false) (hn : ∀ j y, j < k → l[j]? = some y → q y = true) : DfSt q l k (k + 1) l := by
 have hk := (List.getElem?_eq_some_iff.1 hx).1
 refine ⟨rfl, Nat.lt_succ_self _, hk, ?_, rfl⟩
 rw [List.take_add_one, hx, List.filter_append]
 have : (l.take k).filter q = l.take k := by
  rw [List.filter_eq_self]
  intro y hy
  obtain ⟨j, hj⟩ := List.getElem?_of_mem hy
  rw [List.getElem?_take] at hj
  split at hj
  ·
   exact hn j y (by assumption) hj
  ·
   cases hj
 rw [this]
 simp [hq]
theorem DfSt.keep {α : Type} {q : α → Bool} {l : List α} {i j : Nat} {dk : List α} {x : α} (h : DfSt q l i j dk) (hx : l[j]? = some x) (hq : q x = true) : DfSt q l (i + 1) (j + 1) (dk.set i x) := by
 have hj := (List.getElem?_eq_some_iff.1 hx).1
 have h1 := h.lt
 have h2 := h.len
 refine ⟨by rw [List.length_set, h.len], by omega, hj, ?_, ?_⟩
 ·
  rw [List.take_add_one, List.take_set_of_le (Nat.le_refl _), List.getElem?_set_self (by omega), h.low, List.take_add_one, hx, List.filter_append]
  simp [hq]
 ·
  rw [List.drop_set_of_lt (by omega)]
  have := congrArg (List.drop 1) h.high
  rw [List.drop_drop, List.drop_drop] at this
  exact this
theorem DfSt.skip {α : Type} {q : α → Bool} {l : List α} {i j : Nat} {dk : List α} {x : α} (h : DfSt q l i j dk) (hx : l[j]? = some x) (hq : q x = false) : DfSt q l i (j + 1) dk := by
 have hj := (List.getElem?_eq_some_iff.1 hx).1
 have h1 := h.lt
 refine ⟨h.len, by omega, hj, ?_, ?_⟩
 ·
  rw [h.low, List.take_add_one, hx, List.filter_append]
  simp [hq]
 ·
  have := congrArg (List.drop 1) h.high
  rw [List.drop_drop, List.drop_drop] at this
  exact this
theorem DfSt.get {α : Type} {q : α → Bool} {l : List α} {i j : Nat} {dk : List α} (h : DfSt q l i j dk) : dk[j]? = l[j]? := by
 have := congrArg (fun z => z[0]?) h.high
 simpa using this
theorem DfSt.done {α : Type} {q : α → Bool} {l : List α} {i : Nat} {dk : List α} (h : DfSt q l i l.length dk) : dk.take i = l.filter q := by
 rw [h.low, List.take_length]
theorem cellsOf_tk (l : List Node) (i : Nat) : cellsOf (l.take i) = (cellsOf l).take (i * 6) := by
 by_cases h : i ≤ l.length
 ·
  have e : cellsOf l = cellsOf (l.take i) ++ cellsOf (l.drop i) := by rw [← cellsOf_append, List.take_append_drop]
  rw [e, List.take_left' (by rw [cellsOf_length, List.length_take]; omega)]
 ·
  rw [List.take_of_length_le (by omega), List.take_of_length_le (by rw [cellsOf_length]; omega)]
theorem cellsOf_put (l : List Node) (i : Nat) (x : Node) (h : i < l.length) : cellsOf (l.set i x) = (cellsOf l).take (i * 6) ++ nodeCells x ++ (cellsOf l).drop (i * 6 + 6) := by
 have e : cellsOf l = cellsOf (l.take i) ++ (nodeCells l[i] ++ cellsOf (l.drop (i + 1))) := by
  have h1 : cellsOf l = cellsOf (l.take i ++ l.drop i) := by rw [List.take_append_drop]
  rw [h1, cellsOf_append, List.drop_eq_getElem_cons h]
  rfl
 have hl : (cellsOf (l.take i)).length = i * 6 := by rw [cellsOf_length, List.length_take]; omega
 have hl2 : (cellsOf (l.take i) ++ nodeCells l[i]).length = i * 6 + 6 := by rw [List.length_append, hl]; rfl
 rw [List.set_eq_take_append_cons_drop, if_pos h, cellsOf_append, e, List.take_left' hl, ← List.append_assoc (cellsOf (l.take i)) (nodeCells l[i]), List.drop_left' hl2, List.append_assoc]
 rfl
theorem R_row {w : World} {base g n cap : Nat} {l : List Node} (h : Kd.R k53 53 w base (fun _ => True) (.slice (some ⟨g, 0, none⟩) n cap) l) :
  n = l.length ∧ ∃ cur, base ≤ g ∧ w.heap[g]? = some (.cells cur 53 (0, 0)) ∧ n ≤ cap ∧ cap ≤ 9223372036854775807 ∧ cur.size = cap * 6 ∧ cur.toList.take (n * 6) = cellsOf l := by
 have hn : n = l.length := (Kd.R_reads' h).1
 subst hn
 obtain ⟨hl, ho⟩ := cells_of_R h
 rcases ho with ⟨h0, _⟩ | ⟨g', cap', cur, he, hbg, hcur, hle, hmx, hsz, htk⟩
 ·
  cases h0
 ·
  cases he
  exact ⟨rfl, cur, hbg, hcur, hle, hmx, hsz, htk⟩
theorem R_of_row {w : World} {base g n cap : Nat} {l : List Node} {cur : Array Value} (hn : n = l.length) (hb : base ≤ g) (hc : w.heap[g]? = some (.cells cur 53 (0, 0))) (hle : n ≤ cap) (hmx : cap ≤ 9223372036854775807) (hsz : cur.size = cap * 6) (ht : cur.toList.take (n * 6) = cellsOf l) :
  Kd.R k53 53 w base (fun _ => True) (.slice (some ⟨g, 0, none⟩) n cap) l := by
 subst hn
 exact R_of_cells ⟨cellsOf_length _, .inr ⟨g, cap, cur, rfl, hb, hc, hle, hmx, hsz, ht⟩⟩ (fun _ _ => trivial)
theorem take_mid {α : Type} (cur xs : List α) (i m n : Nat) (hi : i + m ≤ n) (hx : xs.length = m) (hn : i ≤ cur.length) : (cur.take i ++ xs ++ cur.drop (i + m)).take n = (cur.take n).take i ++ xs ++ (cur.take n).drop (i + m) := by
 subst hx
 rw [List.take_take, show min i n = i by omega, List.take_append, List.take_of_length_le (l := cur.take i ++ xs) (by rw [List.length_append, List.length_take]; omega), List.length_append, List.length_take, show min i cur.length = i by omega, List.drop_take]
theorem run_storeVar_at {P : Program} (w : World) (g o : Nat) (t ty : TypeId) (cur cells : Array Value) (hg : w.heap[g]? = some (.cells cur t (0, 0))) (hi : (P.info? ty).map (·.size) = some cells.size)
  (ho : o + cells.size ≤ cur.size) (h1 : ∀ v ∈ cells.toList, v.oneCell' = true) :
  (storeVar ty ⟨g, o, none⟩ (.agg cells)).run P w = .ok () (w.setRow g (cur.toList.take o ++ cells.toList ++ cur.toList.drop (o + cells.size)).toArray) := by
 have := run_storeCells_at (P := P) g o t cells.toList 0 cur w hg (by rw [Array.length_toList]; exact ho) h1
 cases hq : P.info? ty with
 | none => simp [hq] at hi
 | some i =>
  have hs : cells.size = i.size := by simp [hq] at hi; omega
  simp only [Nat.add_zero, Array.length_toList] at this
  simp [storeVar, sizeOf, typeInfo, hq, Value.cells, hs, this]
/-- A node is stored into a row. -/
theorem row_put {w : World} {base g n cap i : Nat} {l : List Node} (x : Node) (h : Kd.R k53 53 w base (fun _ => True) (.slice (some ⟨g, 0, none⟩) n cap) l) (hi : i < n) :
  ∃ w', (storeVar 53 ⟨g, i * 6, none⟩ (vNode x)).run Tryz.prog w = .ok () w' ∧ Kd.R k53 53 w' base (fun _ => True) (.slice (some ⟨g, 0, none⟩) n cap) (l.set i x) ∧ w.grownBy w' (some g) := by
 obtain ⟨rfl, cur, hb, hc, hle, hmx, hsz, ht⟩ := R_row h
 have hl := cellsOf_length l
 have hcl : cur.toList.length = cap * 6 := by rw [Array.length_toList]; exact hsz
 obtain ⟨i0, hi0, hz0, hz1, hz2⟩ := info_parts infoN
 have hst := run_storeVar_at (P := Tryz.prog) w g (i * 6) 53 53 cur (nodeCells x).toArray hc (by rw [hi0]; show some i0.size = some 6; rw [hz1]) (by show i * 6 + 6 ≤ _; omega) (by intro v hv; simp [nodeCells] at hv; rcases hv with rfl | rfl | rfl | rfl | rfl | rfl <;> rfl)
 rw [show (nodeCells x).toArray.size = 6 from rfl, List.toList_toArray] at hst
 have h6 : (nodeCells x).length = 6 := rfl
 refine ⟨_, hst, ?_, setRow_grown w g _⟩
 refine R_of_row (by rw [List.length_set]) hb (setRow_at hc _) hle hmx ?_ ?_
 rotate_left
 ·
  rw [cellsOf_put _ _ _ hi, ← ht, List.toList_toArray]
  exact take_mid _ _ _ _ _ (by omega) h6 (by omega)
 ·
  rw [List.size_toArray, List.length_append, List.length_append, List.length_take, List.length_drop, h6]
  omega
/-- The end of a row is cleared. -/
theorem row_clear {w : World} {base g n cap i : Nat} {l : List Node} (h : Kd.R k53 53 w base (fun _ => True) (.slice (some ⟨g, 0, none⟩) n cap) l) (hi : i < n) :
  ∃ w', (Builtin.clear_ #[22] 0 #[.slice (some ⟨g, i * 6, none⟩) (n - i) (cap - i)]).run Tryz.prog w = .ok (.tuple #[]) w' ∧ Kd.R k53 53 w' base (fun _ => True) (.slice (some ⟨g, 0, none⟩) i cap) (l.take i) ∧ w.grownBy w' (some g) := by
 obtain ⟨rfl, cur, hb, hc, hle, hmx, hsz, ht⟩ := R_row h
 have hl := cellsOf_length l
 have hcl : cur.toList.length = cap * 6 := by rw [Array.length_toList]; exact hsz
 have hclr := run_clear_row (P := Tryz.prog) Tryz.underlying22 Tryz.zeroValue53 (by decide) 0 g (i * 6) (l.length - i) (cap - i) cur 53 w hc (by omega) (by rw [hsz]; show i * 6 + (l.length - i) * 6 ≤ cap * 6; omega)
 have hz6 : (Value.agg #[(.int .i64 0), (.int .i64 0), (.int .i64 0), (.int .i64 0), (.int .i64 0), (.int .i32 0)]).cells.size = 6 := rfl
 have hzl : (Builtin.zeroCells (Value.agg #[(.int .i64 0), (.int .i64 0), (.int .i64 0), (.int .i64 0), (.int .i64 0), (.int .i32 0)]).cells (l.length - i)).toList.length = (l.length - i) * 6 := by rw [Array.length_toList, size_zeroCells]; rfl
 rw [hz6] at hclr
 generalize (Builtin.zeroCells (Value.agg #[(.int .i64 0), (.int .i64 0), (.int .i64 0), (.int .i64 0), (.int .i64 0), (.int .i32 0)]).cells (l.length - i)).toList = zs at hclr hzl
 refine ⟨_, hclr, ?_, setRow_grown w g _⟩
 refine R_of_row (by rw [List.length_take]; omega) hb (setRow_at hc _) (by omega) hmx ?_ ?_
 ·
  rw [List.size_toArray, List.length_append, List.length_append, List.length_take, List.length_drop, hzl]
  omega
 ·
  rw [List.toList_toArray, List.append_assoc, List.take_left' (by rw [List.length_take]; omega), cellsOf_tk, ← ht, List.take_take, show min (i * 6) (l.length * 6) = i * 6 by omega]
theorem row_six {W : World} {base g n c k : Nat} {xs : List Node} {x : Node} (h : Kd.R k53 53 W base (fun _ => True) (.slice (some ⟨g, 0, none⟩) n c) xs) (hk : xs[k]? = some x) :
  W.cell? ⟨g, k * 6, none⟩ = some (.int .i64 x.f0.f0) ∧ W.cell? ⟨g, k * 6 + 1, none⟩ = some (.int .i64 x.f0.f1) ∧ W.cell? ⟨g, k * 6 + 2, none⟩ = some (.int .i64 x.f1.f0) ∧ W.cell? ⟨g, k * 6 + 3, none⟩ = some (.int .i64 x.f1.f1) ∧ W.cell? ⟨g, k * 6 + 4, none⟩ = some (.int .i64 x.f2) ∧ W.cell? ⟨g, k * 6 + 5, none⟩ = some (.int .i32 x.f3) := by
 obtain ⟨ad, e, h0, h1, h2, h3, h4, h5⟩ := node_at (Kd.R_reads' h).2.2 (Below.refl _ W) k x hk
 cases e
 rw [show (⟨g, 0, none⟩ : Addr).add (k * 6) = ⟨g, k * 6, none⟩ by rw [add_lit, Nat.zero_add]] at h0 h1 h2 h3 h4 h5
 exact ⟨h0, h1, h2, h3, h4, h5⟩
theorem box_cells {V : World} {g : Nat} {c0 c1 c2 c3 c4 c5 : Value} (h : V.heap[g]? = some (.cells #[c0, c1, c2, c3, c4, c5] 53 (0, 0))) :
  V.cell? ⟨g, 0, none⟩ = some c0 ∧ V.cell? ⟨g, 1, none⟩ = some c1 ∧ V.cell? ⟨g, 2, none⟩ = some c2 ∧ V.cell? ⟨g, 3, none⟩ = some c3 ∧ V.cell? ⟨g, 4, none⟩ = some c4 ∧ V.cell? ⟨g, 5, none⟩ = some c5 :=
 ⟨(blk_cell h 0).trans rfl, (blk_cell h 1).trans rfl, (blk_cell h 2).trans rfl, (blk_cell h 3).trans rfl, (blk_cell h 4).trans rfl, (blk_cell h 5).trans rfl⟩
section
variable {ops : Array Oper} {rest : List Oper} {o : Oper} {a : Act} {Q : Exit → Act → World → Prop}
/-- The operation: a node is stored into a row. -/
theorem wpList_putNode (hgd : o.guard = none) (s x : Operand) (ho : o.op = .store 53 s x) (hd : o.dst = none) {w : World} {base g n cap i : Nat} {l : List Node} (y : Node)
  (h : Kd.R k53 53 w base (fun _ => True) (.slice (some ⟨g, 0, none⟩) n cap) l) (hi : i < n) (hs : a.eval s = .pointer (some ⟨g, i * 6, none⟩)) (hx : a.eval x = vNode y)
  (hk : ∀ w', Kd.R k53 53 w' base (fun _ => True) (.slice (some ⟨g, 0, none⟩) n cap) (l.set i y) → w.grownBy w' (some g) → wpList Tryz.prog ops Q rest a w') : wpList Tryz.prog ops Q (o :: rest) a w := by
 obtain ⟨w', h1, h2, h3⟩ := row_put y h hi
 refine wpList_plain hgd fun K hK => ?_
 unfold Oper.wp execOp
 simp only [ho, hs, hx, Instr.storeAt, Instr.sureAddr, Sem.run_bind, Sem.run_pure, Result.andThen_ok, h1]
 show K (a.put o.dst undef) w'
 rw [hd]
 exact hK _ _ (hk w' h2 h3)
end
theorem own_more {w V : World} {base : Nat} {v : Value} {l : List Node} (h : Kd.R k53 53 w base (fun _ => True) v l) (hb : Below w.heap.size w V) : Kd.R k53 53 V base (fun _ => True) v l := Kd.R_below h hb
theorem grown_more {w W V : World} {g : Nat} (h : w.grownBy W (some g)) (hb : Below W.heap.size W V) : w.grownBy V (some g) :=
 ⟨hb.os.trans h.os, hb.tape.trans h.tape, hb.output.trans h.output, Nat.le_trans h.size hb.size, fun k hk hne => (hb.block k (Nat.lt_of_lt_of_le hk h.size)).trans (h.block k hk hne)⟩
theorem grown_trans {w W V : World} {g : Nat} (h : w.grownBy W (some g)) (k : W.grownBy V (some g)) : w.grownBy V (some g) :=
 ⟨k.os.trans h.os, k.tape.trans h.tape, k.output.trans h.output, Nat.le_trans h.size k.size, fun q hq hne => (k.block q (Nat.lt_of_lt_of_le hq h.size) hne).trans (h.block q hq hne)⟩
theorem grown_self (w : World) (g : Nat) : w.grownBy w (some g) := ⟨rfl, rfl, rfl, Nat.le_refl _, fun _ _ _ => rfl⟩
theorem idxFrom_cases (p : Node → Bool) (l : List Node) : (idxFrom p l = -1 ∧ ∀ x ∈ l, p x = false) ∨ ∃ (k : Nat) (x : Node), l[k]? = some x ∧ idxFrom p l = (k : Int) ∧ p x = true ∧ ∀ j y, j < k → l[j]? = some y → p y = false := by
 unfold idxFrom
 cases h : l.findIdx? p with
 | none =>
  rw [List.findIdx?_eq_none_iff] at h
  exact .inl ⟨rfl, h⟩
 | some k =>
  obtain ⟨hk, h1, h2⟩ := List.findIdx?_eq_some_iff_getElem.1 h
  refine .inr ⟨k, l[k], List.getElem?_eq_getElem hk, rfl, h1, fun j y hj hy => ?_⟩
  obtain ⟨hl, rfl⟩ := List.getElem?_eq_some_iff.1 hy
  simpa using h2 j hj
set_option maxHeartbeats 1000000 in
set_option maxRecDepth 100000 in
theorem DeleteFuncNode.calls (p : Node → Bool) (fn : Nat) (base : Nat) (v : Value) (l : List Node) (w : World) (ho : Kd.R k53 53 w base (fun _ => True) v l) (hl : l.length ≤ 1000000)
  (hcall : ∀ args W, (callFunc fn args).run Tryz.prog W = .ok (.enter fn args) W)
  (hp : ∀ x W, Calls Tryz.prog fn #[vNode x] W fun e W' => e = .returned (.bool (p x)) ∧ Below W.heap.size W W') :
  Calls Tryz.prog 88 #[v, .func (.func fn) #[] #[]] w fun e w' => ∃ v0_ : Value, e = .returned v0_ ∧ Kd.R k53 53 w' base (fun _ => True) v0_ (l.filter fun x => !p x) ∧ w.grownBy w' v.ownBlock := by
 obtain ⟨A, c, rfl, hlc⟩ : ∃ A c, v = .slice A l.length c ∧ l.length ≤ c := by
  obtain ⟨A, c, rfl⟩ := RN.slice ho
  exact ⟨A, c, rfl, (Kd.R_reads' ho).2.1⟩
 have HI := Aside0.mk (IndexFuncNode.calls p fn #[] A c l w (Kd.R_reads' ho).2.2 hlc hcall (fun x W _ => hp x W))
 have HP := Aside0.mk hp
 have HO := Aside0.mk ho
 clear ho hp
 obtain ⟨n, Hn⟩ : ∃ n, Aside0 (l.length = n) := ⟨_, ⟨rfl⟩⟩
 rw [Hn.out] at HI HO hl hlc ⊢
 have hu := Tryz.underlying53
 rcases idxFrom_cases p l with ⟨hi, hall⟩ | ⟨k, x, hk, hi, hx, hlow⟩
 ·
  have HF := Aside0.mk (show (l.filter fun x => !p x) = l by rw [List.filter_eq_self]; intro y hy; rw [hall y hy]; rfl)
  rw [hi] at HI
  clear hi hall
  go_enter Tryz.func88, Tryz.ntmps88
  go_wp2_with fail
  refine HI.out.mono ?_
  rintro e W ⟨rfl, hb⟩
  go_wp2
  go_ret
  refine ⟨_, rfl, ?_, ⟨hb.os, hb.tape, hb.output, hb.size, fun q hq _ => hb.block q hq⟩⟩
  rw [HF.out]
  exact own_more HO.out hb
 ·
  have hkn : k < n := by rw [← Hn.out]; exact (List.getElem?_eq_some_iff.1 hk).1
  obtain ⟨g, rfl⟩ : ∃ g, A = some ⟨g, 0, none⟩ := by
   obtain ⟨g, cap, h1, _⟩ := Kd.R_form HO.out (by rw [Hn.out]; omega)
   cases h1
   exact ⟨g, rfl⟩
  have HS := Aside0.mk (DfSt.start (q := fun x => !p x) hk (by rw [hx]; rfl) (fun j y hj hy => by rw [hlow j y hj hy]; rfl))
  have HK := Aside0.mk hkn
  rw [hi] at HI
  clear hi hx hlow hk
  have hne : ((k : Int) == -1) = false := beq_eq_false_iff_ne.2 (by omega)
  go_enter Tryz.func88, Tryz.ntmps88
  go_wp2_with fail
  refine HI.out.mono ?_
  rintro e W ⟨rfl, hb⟩
  have HB := Aside0.mk hb
  clear hb
  go_wp2
  go_loopw [5, 6, 7] (fun i j _ wr => ∃ (a b : Nat) (dk : List Node), i = .int .i64 a ∧ j = .int .i64 b ∧ a < b ∧ b ≤ n ∧ Aside0 (DfSt (fun x => !p x) l a b dk) ∧ Aside0 (Kd.R k53 53 wr base (fun _ => True) (.slice (some ⟨g, 0, none⟩) n c) dk) ∧ Aside0 (w.grownBy wr (some g))) (fun _ j _ _ => n - (intOf j).toNat)
  case atStart => exact ⟨k, k + 1, l, rfl, by go_num, by omega, by have := HK.out; omega, HS, ⟨own_more HO.out HB.out⟩, ⟨grown_more (grown_self w g) HB.out⟩⟩
  case round =>
   obtain ⟨a, b, dk, rfl, rfl, hab, hbn, HD, HRw, HG⟩ := hrel
   by_cases hlt : b < n
   ·
    obtain ⟨y, hy⟩ : ∃ y, Aside0 (l[b]? = some y) := ⟨_, ⟨List.getElem?_eq_getElem (by rw [Hn.out]; exact hlt)⟩⟩
    obtain ⟨h0, h1, h2, h3, h4, h5⟩ := row_six HRw.out (HD.out.get.trans hy.out)
    cases hpy : p y with
    | true =>
     have HP2 := Aside0.mk hpy
     clear hpy
     go_wp2
     refine (HP.out y _).mono ?_
     rintro e V ⟨rfl, hb⟩
     rw [HP2.out]
     have HBV := Aside0.mk (below_more (below_alloc (Below.refl _ wr) _) hb)
     clear hb
     go_wp2
     go_roundw
     case rel => exact ⟨a, b + 1, dk, rfl, by go_num, by omega, by omega, ⟨HD.out.skip hy.out (by rw [HP2.out]; rfl)⟩, ⟨own_more HRw.out HBV.out⟩, ⟨grown_more HG.out HBV.out⟩⟩
     case measure => simp [intOf]; omega
    | false =>
     have HP2 := Aside0.mk hpy
     clear hpy
     go_wp2
     refine (HP.out y _).mono ?_
     rintro e V ⟨rfl, hb⟩
     rw [HP2.out]
     have HX := Aside0.mk (blk_keep (blk_new wr _) hb)
     have HBV := Aside0.mk (below_more (below_alloc (Below.refl _ wr) _) hb)
     clear hb h0 h1 h2 h3 h4 h5
     obtain ⟨h0, h1, h2, h3, h4, h5⟩ := box_cells HX.out
     have HRV := own_more HRw.out HBV.out
     have HRV := Aside0.mk HRV
     have han : a < n := by omega
     go_wp2_with (refine wpList_putNode rfl (.tmp 33) (.tmp 32) rfl rfl y HRV.out han rfl rfl ?_; intro V2 hR2 hg2)
     go_roundw
     case rel => exact ⟨a + 1, b + 1, dk.set a y, by go_num, by go_num, by omega, by omega, ⟨HD.out.keep hy.out (by rw [HP2.out]; rfl)⟩, ⟨hR2⟩, ⟨grown_trans (grown_more HG.out HBV.out) hg2⟩⟩
     case measure => simp [intOf]; omega
   ·
    obtain rfl : b = n := by omega
    obtain ⟨V, hrun, hR, hg⟩ := row_clear HRw.out hab
    have HRUN := Aside0.mk hrun
    have HR3 := Aside0.mk hR
    have HG3 := Aside0.mk (grown_trans HG.out hg)
    have hda := HD.out
    rw [← Hn.out] at hda
    have HDA := Aside0.mk hda.done
    have hca : ¬ c = a := by omega
    have hac : a ≤ c := by omega
    have hab2 : a ≤ b := by omega
    clear hrun hR hg hda
    have hrun := HRUN.out
    go_wp2
    go_ret
    exact ⟨_, rfl, by rw [← HDA.out]; exact HR3.out, HG3.out⟩
def aliveOf (l : List Node) : List Node := l.filter fun x => !decide (x.f3 = 0)
def visOf (l : List Node) : List Node := aliveOf (nds (ordOf l))
def index_visible.f (l0 : List Node) : Option (List Node × Int) := if l0.length ≤ 1000000 then some (if storeOk l0 = true then (visOf l0, 0) else ([], 2)) else none
theorem dead_call (x : Node) (W : World) : Calls Tryz.prog 89 #[vNode x] W fun e W' => e = .returned (.bool (decide (x.f3 = 0))) ∧ Below W.heap.size W W' :=
 node_Dead.calls x.f0.f0 x.f0.f1 x.f1.f0 x.f1.f1 x.f2 x.f3 (decide (x.f3 = 0)) W (by unfold node_Dead.f; by_cases h : x.f3 = 0 <;> simp [h])
theorem dead_enters : ∀ args W, (callFunc 89 args).run Tryz.prog W = .ok (.enter 89 args) W := enters_of Tryz.func89 (by kernel_rfl) rfl
theorem grown_on {w W V : World} {row : Option Nat} (h : W.grownBy V row) (hb : Below w.heap.size w W) (hr : ∀ k, row = some k → w.heap.size ≤ k) : Below w.heap.size w V := hb.grown h hb.size hr
theorem R_base {W : World} {base : Nat} {v : Value} {l : List Node} (h : Kd.R k53 53 W base (fun _ => True) v l) : ∀ k, v.ownBlock = some k → base ≤ k := fun k e => by
 obtain ⟨_, ho⟩ := cells_of_R h
 rcases ho with ⟨rfl, _⟩ | ⟨g, cap, cur, rfl, hb, _⟩
 ·
  cases e
 ·
  cases e; exact hb
theorem nds_length (l : List (Nat × Node)) : (nds l).length = l.length := by unfold nds; rw [List.length_map]
theorem aliveOf_le (l : List Node) : (aliveOf l).length ≤ l.length := List.length_filter_le _ _
set_option maxHeartbeats 400000 in
theorem index_visible.calls (A0 : Option Addr) (c0 : Nat) (ll : List Node) (r0 : List Node) (r1 : Int) (w : World) (hr0 : Kd.C k53 w A0 ll.length ll) (hc0 : ll.length ≤ c0) (h : index_visible.f ll = some (r0, r1)) :
  Calls Tryz.prog 64 #[.slice A0 ll.length c0] w fun e w' => ∃ v0_ : Value, e = .returned (.tuple #[v0_, .int .i64 r1]) ∧ Kd.R k53 53 w' w.heap.size (fun _ => True) v0_ r0 ∧ Below w.heap.size w w' := by
 unfold index_visible.f at h
 by_cases hl : ll.length ≤ 1000000
 rotate_left
 ·
  rw [if_neg hl] at h; cases h
 rw [if_pos hl] at h
 obtain ⟨o, eo, he, ho⟩ : ∃ o eo, walk_Order.f ll = some (o, eo) ∧ (r0 = aliveOf o ∧ r1 = eo ∧ o.length ≤ 1000000) := by
  unfold walk_Order.f
  rw [if_pos hl]
  by_cases hs : storeOk ll = true
  ·
   rw [if_pos hs] at h ⊢
   cases h
   exact ⟨_, _, rfl, rfl, rfl, by have := ord_le (store_of hs); rw [List.length_map]; omega⟩
  ·
   rw [if_neg hs] at h ⊢
   cases h
   exact ⟨_, _, rfl, rfl, rfl, by simp⟩
 obtain ⟨rfl, rfl, hol⟩ := ho
 have HO := Aside0.mk (walk_Order.calls A0 c0 ll o r1 w hr0 hc0 he)
 have HL := Aside0.mk hol
 clear h hr0 hc0 he hol hl
 go_enter Tryz.func64, Tryz.ntmps64
 go_wp2_with fail
 refine HO.out.mono ?_
 rintro e W ⟨v, rfl, hR, hb⟩
 have HR := Aside0.mk hR
 have HB := Aside0.mk hb
 clear hR hb HO
 go_wp2_with fail
 refine (DeleteFuncNode.calls (fun x => decide (x.f3 = 0)) 89 w.heap.size v o W HR.out HL.out dead_enters dead_call).mono ?_
 rintro e V ⟨v2, rfl, hR2, hg⟩
 have HR2 := Aside0.mk hR2
 have HB2 := Aside0.mk (grown_on hg HB.out (R_base HR.out))
 clear hR2 hg
 go_wp2
 go_ret2
 exact ⟨_, rfl, HR2.out, HB2.out⟩
end Go.Proofs.YtmbndijbpgobeaaGreat.PWalk
end
section
namespace Go.Proofs.YtmbndijbpgobeaaGreat.PWalk
open Go.RowKit Go.Proofs.YtmbndijbpgobeaaGreatW.PrintWords Go.Proofs.YtmbndijbpgobeaaGreatW.PrintLast Go.Proofs.YtmbndijbpgobeaaGreatW.PrintMore
attribute [local go_sem] max2_int max_two
set_option linter.unusedVariables false
set_option linter.unusedSimpArgs false
def edit_first.l0 : Nat → List Int → Int → Int → Option (Int)
 | 0, _, _, _ => none
 | k + 1, x5, x6, x7 => if x7 < x6 then (if 0 ≤ x7 then (if x7 < (x5.length : Int) then (if (rd x5 x7) = 0 then (edit_first.l0 k x5 x6 (wrap64 (x7 + 1))) else (some (rd x5 x7))) else (none)) else (none)) else (some 0)
def edit_first.f (k : Nat) (l0 : List Int) : Option (Int) := edit_first.l0 k l0 (l0.length : Int) 0
set_option maxHeartbeats 8000000 in
set_option maxRecDepth 100000 in
theorem edit_first.calls (k : Nat) (A0 : Option Addr) (c0 : Nat) (l0 : List Int) (r : Int) (w : World) (hr0 : Kd.C (Kd.int .i64) w A0 l0.length l0) (hc0 : l0.length ≤ c0) (h : edit_first.f k l0 = some r) :
  Calls Tryz.prog 40 #[.slice A0 l0.length c0] w fun e w' => e = .returned (.int .i64 r) ∧ Drawn0 w w' := by
 have HR0 := Aside0.mk hr0
 have HC0 := Aside0.mk hc0
 clear hr0 hc0
 have H : (edit_first.l0 k l0 (l0.length : Int) 0) = some r := h
 clear h
 have H' := Aside0.mk H
 clear H
 go_enter Tryz.func40, Tryz.ntmps40
 go_wp2
 go_loopg [7] k (fun kq v7 w' => ∃ (x7_1 : Int), v7 = .int .i64 x7_1 ∧ Aside0 (edit_first.l0 kq l0 (l0.length : Int) x7_1 = some r) ∧ Aside0 (kq ≤ k) ∧ Drawn0 w w')
 case atStart => exact ⟨(0), (by first | rfl | (simp; done) | (simp [*]; done)), H', ⟨Nat.le_refl _⟩, by repeat (first | exact Drawn0.refl _ | apply Drawn0.step)⟩
 case round =>
  clear H'
  obtain ⟨x7_1, rfl, HA, HK1, ⟨m1, rfl⟩⟩ := hrel
  cases gk with
  | zero => exact absurd HA.out (by simp [edit_first.l0])
  | succ k1 =>
   have H := HA.out
   clear HA
   simp only [edit_first.l0] at H
   by_cases c2 : x7_1 < (l0.length : Int)
   ·
    rw [if_pos c2] at H
    have c2b0 : decide (x7_1 < (l0.length : Int)) = true := decide_eq_true c2
    clear c2
    by_cases c3 : 0 ≤ x7_1
    ·
     rw [if_pos c3] at H
     have c3b0 : decide (0 ≤ x7_1) = true := decide_eq_true c3
     clear c3
     by_cases c4 : x7_1 < (l0.length : Int)
     ·
      rw [if_pos c4] at H
      have c4b0 : decide (x7_1 < (l0.length : Int)) = true := decide_eq_true c4
      clear c4
      by_cases c5 : (rd l0 x7_1) = 0
      ·
       rw [if_pos c5] at H
       have c5b0 : ((rd l0 x7_1) == 0) = true := beq_iff_eq.mpr c5
       have c5b1 : ((rd l0 x7_1) != 0) = false := bne_eq_false_iff_eq.mpr c5
       clear c5
       have H' := Aside0.mk H
       clear H
       have p101 : 0 ≤ (x7_1 : Int) := of_decide_eq_true (by first | (with_reducible assumption) | assumption)
       have q101 : x7_1 < (l0.length : Int) := of_decide_eq_true (by first | (with_reducible assumption) | assumption)
       obtain ⟨ad101, e101, hx101_0⟩ := Kd.at_int HR0.out x7_1 p101 q101
       cases e101
       replace p101 := eq_true p101
       replace q101 := eq_true q101
       go_wp2
       go_roundg k1
       case measure => have := HK1.out; omega
       case rel => exact ⟨(wrap64 (x7_1 + 1)), (by first | rfl | (simp; done) | (simp [*]; done)), H', ⟨by have := HK1.out; omega⟩, by repeat (first | exact Drawn0.refl _ | apply Drawn0.step)⟩
      ·
       rw [if_neg c5] at H
       have c5b0 : ((rd l0 x7_1) == 0) = false := beq_eq_false_iff_ne.mpr c5
       have c5b1 : ((rd l0 x7_1) != 0) = true := bne_iff_ne.mpr c5
       obtain rfl := Option.some.inj H
       have p101 : 0 ≤ (x7_1 : Int) := of_decide_eq_true (by first | (with_reducible assumption) | assumption)
       have q101 : x7_1 < (l0.length : Int) := of_decide_eq_true (by first | (with_reducible assumption) | assumption)
       obtain ⟨ad101, e101, hx101_0⟩ := Kd.at_int HR0.out x7_1 p101 q101
       cases e101
       replace p101 := eq_true p101
       replace q101 := eq_true q101
       go_wp2
       go_ret
       exact ⟨by first | rfl | (simp; done) | (simp [*]; done), by repeat (first | exact Drawn0.refl _ | apply Drawn0.step)⟩
     ·
      rw [if_neg c4] at H
      exact absurd H (by simp)
    ·
     rw [if_neg c3] at H
     exact absurd H (by simp)
   ·
    rw [if_neg c2] at H
    have c2b0 : decide (x7_1 < (l0.length : Int)) = false := decide_eq_false c2
    clear c2
    obtain rfl := Option.some.inj H
    go_wp2
    go_ret
    exact ⟨by first | rfl | (simp; done) | (simp [*]; done), by repeat (first | exact Drawn0.refl _ | apply Drawn0.step)⟩
def edit_when.f (a0 : Bool) (a1 : Int) : Option (Int) := if a0 = true then (some a1) else (some 0)
set_option maxHeartbeats 8000000 in
set_option maxRecDepth 100000 in
theorem edit_when.calls (a0 : Bool) (a1 : Int) (r : Int) (w : World) (h : edit_when.f a0 a1 = some r) :
  Calls Tryz.prog 42 #[.bool a0, .int .i64 a1] w fun e w' => e = .returned (.int .i64 r) ∧ Drawn0 w w' := by
 have H : (if a0 = true then (some a1) else (some 0)) = some r := h
 clear h
 by_cases c3 : a0 = true
 ·
  subst c3
  have H1 : (some a1) = some r := by rw [if_pos rfl] at H; exact H
  clear H
  have H := H1
  clear H1
  obtain rfl := Option.some.inj H
  go_enter Tryz.func42, Tryz.ntmps42
  go_wp2
  go_ret
  exact ⟨by first | rfl | (simp; done) | (simp [*]; done), by repeat (first | exact Drawn0.refl _ | apply Drawn0.step)⟩
 ·
  replace c3 := Bool.eq_false_iff.mpr c3
  subst c3
  have H1 : (some 0) = some r := by rw [if_neg (show ¬ (false = true) by decide)] at H; exact H
  clear H
  have H := H1
  clear H1
  obtain rfl := Option.some.inj H
  go_enter Tryz.func42, Tryz.ntmps42
  go_wp2
  go_ret
  exact ⟨by first | rfl | (simp; done) | (simp [*]; done), by repeat (first | exact Drawn0.refl _ | apply Drawn0.step)⟩
end Go.Proofs.YtmbndijbpgobeaaGreat.PWalk
end
