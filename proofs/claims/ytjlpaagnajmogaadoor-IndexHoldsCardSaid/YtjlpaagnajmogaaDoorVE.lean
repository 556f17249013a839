/-
  Of inverts At, Before of a visible node is its index, Text has as many characters as Len says and those are Runes, and Dots of neighbouring parts, one after the other, is that of both; for every list of nodes and number. Part 5 of 8.
-/
import Derived.Test.YtjlpaagnajmogaaDoorVD
import Derived.Sort.LoopGhostIn
import Derived.Sort.QuietTacIn
import Derived.OrdersIn
section
namespace Go.ListRange
open Go.RowKit
variable {F : Fence} {n : Nat} {P : Program} {α : Type}
/-- Nothing below b, and of the others no cells but those of own types, may change; the world may grow. -/
structure Mv (own : Nat → Prop) (b : Nat) (A B : World) : Prop where
 os : B.os = A.os
 tape : B.tape = A.tape
 output : B.output = A.output
 size : A.heap.size ≤ B.heap.size
 block : ∀ i, i < A.heap.size → (i < b ∨ ∀ c t, A.heap[i]? = some (.cells c t (0, 0)) → ¬ own t) → B.heap[i]? = A.heap[i]?
theorem Mv.trans {own : Nat → Prop} {b : Nat} {A B C : World} (h : Mv own b A B) (k : Mv own b B C) : Mv own b A C :=
 ⟨k.os.trans h.os, k.tape.trans h.tape, k.output.trans h.output, Nat.le_trans h.size k.size, fun i hi hc => by
  have e := h.block i hi hc
  exact (k.block i (Nat.lt_of_lt_of_le hi h.size) (hc.imp_right fun hc c t hb => hc c t (e ▸ hb))).trans e⟩
theorem Mv.mono {own : Nat → Prop} {b b' : Nat} {A B : World} (h : Mv own b A B) (hb : b' ≤ b) : Mv own b' A B :=
 ⟨h.os, h.tape, h.output, h.size, fun i hi hc => h.block i hi (hc.imp_left fun h => Nat.lt_of_lt_of_le h hb)⟩
theorem Mv.below {own : Nat → Prop} {b : Nat} {A B : World} (h : Below A.heap.size A B) : Mv own b A B := ⟨h.os, h.tape, h.output, h.size, fun i hi _ => h.block i hi⟩
theorem Mv.far {own : Nat → Prop} {b : Nat} {A B : World} (h : Mv own b A B) {i : Nat} {c : Array Value} {t : Nat} (hi : A.heap[i]? = some (.cells c t (0, 0))) (ht : ¬ own t) : B.heap[i]? = some (.cells c t (0, 0)) :=
 (h.block i (Array.getElem?_eq_some_iff.1 hi).1 (.inr fun c' t' hc => by rw [hi] at hc; cases hc; exact ht)).trans hi
theorem Mv.on {own : Nat → Prop} {b : Nat} {w A B : World} (h : Mv own b A B) (hw : Below w.heap.size w A) (hb : w.heap.size ≤ b) : Below w.heap.size w B :=
 ⟨h.os.trans hw.os, h.tape.trans hw.tape, h.output.trans hw.output, Nat.le_trans hw.size h.size, fun k hk => (h.block k (Nat.lt_of_lt_of_le hk hw.size) (.inl (Nat.lt_of_lt_of_le hk hb))).trans (hw.block k hk)⟩
theorem Book.moved {d : Nat} {r : Loop} {W V : World} {own : Nat → Prop} {b : Nat} (h : Book d r W) (hm : Mv own b W V) : Book d r V :=
 ⟨(hm.block _ h.lt (.inr fun c t hc => by rw [h.loop] at hc; cases hc)).trans h.loop, (hm.block _ (Nat.lt_trans (Nat.lt_succ_self _) h.lt) (.inr fun c t hc => by rw [h.mark] at hc; cases hc)).trans h.mark⟩
/-- The iterator g calls yield with the elements of L, one after the other, until one round says false; between the rounds it may change cells of its own. -/
def Moves (F : Fence) (n : Nat) (P : Program) (g : Nat) (lb : Array Value) (encs : α → Array Value) (Kp : World → World → Prop) (own : Nat → Prop) (L : List α) (w : World) : Prop :=
 ∀ (l : Nat) (J Jx : Nat → World → Prop) (W : World), Below w.heap.size w W → (∀ k A B, Mv own W.heap.size A B → J k A → J k B) → (∀ k A B, Mv own W.heap.size A B → Jx k A → Jx k B) →
  (∀ k x V, L[k]? = some x → J k V → YieldAt F (n - 1) P l (encs x) V fun e V' =>
   (e = .returned (.bool true) ∧ J (k + 1) V' ∧ Kp V V') ∨ (e = .returned (.bool false) ∧ Jx (k + 1) V')) →
  J 0 W → CallsIn F n P g (#[.func (.yield l) #[] #[]] ++ lb) W fun e V => (∃ v, e = .returned v) ∧ (J L.length V ∨ ∃ k, k ≤ L.length ∧ Jx k V)
theorem wpIn_move {g : Operand} {ps : Array Tmp} {assign body : Code} {Q : Exit → Act → World → Prop} {a : Act} {w : World}
  (hro : F.round = none) (h1 : 1 ≤ n) {gf : Nat} {lb : Array Value} (hg : a.eval g = .func (.func gf) #[] lb) (hFg : F.fn gf) (eg : ∀ args w, (callFunc gf args).run P w = .ok (.enter gf args) w)
  {encs : α → Array Value} {Kp : World → World → Prop} {L : List α} {w0 : World} (own : Nat → Prop) (hseq : Moves F (n - 1) P gf lb encs Kp own L w0)
  (hKt : ∀ {A B C : World}, Kp A B → Kp B C → Kp A C) (hKb : ∀ (W : World) (l : Nat) (o o' : Obj), w.heap.size ≤ l → W.heap[l]? = some o → o.isCells = false → o.isWalk = false → Kp W (W.putObj l o')) (hb0 : Below w0.heap.size w0 w) (hps : ∀ x, (encs x).size = ps.size)
  (I : Nat → World → Prop) (Ix : Code → Nat → World → Prop) (hI : OwnFrom w.heap.size I) (hIx : ∀ c, OwnFrom w.heap.size (Ix c)) (hIm : ∀ k A B, Mv own w.heap.size A B → I k A → I k B) (hIxm : ∀ c k A B, Mv own w.heap.size A B → Ix c k A → Ix c k B) (h0 : I 0 w) (Ax : α → Act → World → Prop) (hAx : ∀ x a', OwnFrom w.heap.size (fun (_ : Unit) W => Ax x a' W))
  (hassign : ∀ (l k : Nat) (x : α) (W : World) (K : Act → World → Prop), L[k]? = some x → I k W → (∀ a' V, KeepsFrom w.heap.size W V → Kp W V → I k V → Ax x a' V → K a' V) →
   assign.wpIn (F.inRound l) (n - 1 - 1) P (Exit.then K (fun _ _ _ => False)) { tmps := (ps.zip (encs x)).foldl (fun t (p, v) => t.setIfInBounds p v) a.tmps, defers := [] } W)
  (hbody : ∀ (l k : Nat) (x : α) (a' : Act) (W : World), L[k]? = some x → w.heap.size ≤ l → (∃ r, W.heap[l]? = some (.loop r)) → I k W → Ax x a' W → body.wpIn (F.inRound l) (n - 1 - 1) P (Post w.heap.size Kp I Ix k W) a' W)
  (hdone : ∀ (D : Nat) (W : World), w.heap.size ≤ D → I L.length W → W.heap[D]? = some (.deferred (some [])) → Q .normal { a with defers := { target := .collected D, args := #[] } :: a.defers } W)
  (hstop : ∀ (D : Nat) (c : Code) (k : Nat) (W : World), w.heap.size ≤ D → k ≤ L.length → Ix c k W → W.heap[D]? = some (.deferred (some [])) → c.wpIn F n P Q { a with defers := { target := .collected D, args := #[] } :: a.defers } W) :
  (Code.rangeFunc g ps assign body).wpIn F n P Q a w := by
 refine wpIn_rangeFunc ?_
 intro fn hfn
 rw [hro]
 obtain ⟨d, hd⟩ : ∃ d, d = w.heap.size := ⟨_, rfl⟩
 obtain ⟨R, hR⟩ : ∃ R : LoopState → Option Code → Loop, R = fun s j => { state := s, pending := j, fn, tmps := a.tmps, params := ps, assign, body, defers := d } := ⟨_, rfl⟩
 have hstart := run_enterLoop_outer (P := P) (w := w) fn a.tmps ps assign body
 have hB : Book d (R .ready none) ((w.alloc (.deferred (some []))).alloc (.loop (R .ready none))) := by
  rw [hd]
  constructor
  ·
   have := World.alloc_heap_new (w.alloc (.deferred (some []))) (.loop (R .ready none)); rwa [World.size_alloc] at this
  ·
   exact (Below.heap_alloc _ _ _ (by simp)).trans (World.alloc_heap_new w _)
 have hI1 : I 0 ((w.alloc (.deferred (some []))).alloc (.loop (R .ready none))) := hI.alloc _ (hI.alloc _ h0)
 have hb1 : Below w0.heap.size w0 ((w.alloc (.deferred (some []))).alloc (.loop (R .ready none))) := hb0.trans ((((Below.refl _ w).alloc (Nat.le_refl _) _).alloc (by simp) _).mono hb0.size)
 have hsz : d ≤ ((w.alloc (.deferred (some []))).alloc (.loop (R .ready none))).heap.size := by simp; omega
 have hR0 : Loop.mk .ready none fn a.tmps ps assign body w.heap.size = R .ready none := by rw [hR, hd]
 rw [hR0] at hstart
 generalize (w.alloc (.deferred (some []))).alloc (.loop (R .ready none)) = W1 at *
 subst hd
 refine ⟨w.heap.size + 1, [{ target := .collected w.heap.size, args := #[] }], W1, { target := .fn (.func gf) lb, args := #[.func (.yield (w.heap.size + 1)) #[] #[]] }, W1, gf, #[.func (.yield (w.heap.size + 1)) #[] #[]] ++ lb, W1, hstart, ?_, ?_, ?_, fun _ => h1, ?_⟩
 ·
  simp only [resolve, hg]; simp [go_sem]
 ·
  intro f' hf'; simp [Target.leads] at hf'; subst hf'; exact hFg
 ·
  simp [invoke, go_sem, eg]
 have hend : ∀ (j : Option Code) (s : LoopState) (q : Option Code) (V : World), Book w.heap.size (R s q) V → (Instr.endRound (w.heap.size + 1) j).run P V = .ok (.bool j.isNone) (V.putObj (w.heap.size + 1) (.loop (R (if j.isNone then .ready else .done) j))) := by
  intro j s q V h
  have := run_endRound (P := P) j h.loop
  rw [hR] at this ⊢
  exact this
 have hshut : ∀ (s : LoopState) (j : Option Code) (V : World), s ≠ .busy → Book w.heap.size (R s j) V → (Instr.endLoop (w.heap.size + 1)).run P V = .ok j (V.putObj (w.heap.size + 1) (.loop (R .exhausted j))) := by
  intro s j V hs h
  have := run_endLoop (P := P) h.loop (by rw [hR]; exact hs)
  rw [hR] at this ⊢
  exact this
 refine (hseq (w.heap.size + 1) (fun k V => I k V ∧ Book w.heap.size (R .ready none) V) (fun k V => ∃ c, Ix c k V ∧ Book w.heap.size (R .done (some c)) V) W1 hb1
  (fun k A B hm hs => ⟨hIm k A B (hm.mono hsz) hs.1, hs.2.moved hm⟩)
  (fun k A B hm hs => hs.imp fun c hc => ⟨hIxm c k A B (hm.mono hsz) hc.1, hc.2.moved hm⟩)
  ?_ ⟨hI1, hB⟩).mono ?_
 ·
  rintro k x W hx ⟨hi, hbk⟩
  have hy := run_yield (P := P) (args := encs x) hbk.loop (by rw [hR]; exact hps x)
  have hy' : (Instr.yield (w.heap.size + 1) (encs x)).run P W = .ok (.round (w.heap.size + 1) fn ((ps.zip (encs x)).foldl (fun t (p, v) => t.setIfInBounds p v) a.tmps) assign body) W := by rw [hy, hR]
  refine ⟨fn, _, assign, body, hy', roundIn_of_wpIn hfn (hassign _ k x W _ hx hi ?_)⟩
  intro a' V hkf hkp hi2 hax
  have hbV := hbk.keeps hkf
  have hbusy : (Instr.beginRound (w.heap.size + 1)).run P V = .ok () (V.putObj (w.heap.size + 1) (.loop (R .busy none))) := by
   have := run_beginRound (P := P) hbV.loop (by rw [hR])
   rw [this, hR]
  refine ⟨_, hbusy, ?_⟩
  have hb2 := hbV.put (R .busy none)
  have hk2 : Kp V (V.putObj (w.heap.size + 1) (.loop (R .busy none))) := hKb _ _ _ _ (by omega) hbV.loop rfl rfl
  refine wpIn_mono (hbody _ k x a' _ hx (by omega) ⟨_, hb2.loop⟩ (hI.putObj _ hi2 (by omega) hbV.loop rfl) ((hAx x a').putObj (s := ()) _ hax (by omega) hbV.loop rfl)) ?_
  have hout : ∀ (c : Code) (V3 : World), KeepsFrom w.heap.size (V.putObj (w.heap.size + 1) (.loop (R .busy none))) V3 → Ix c (k + 1) V3 →
    (Instr.endRound (w.heap.size + 1) (some c)).run P V3 = .ok (.bool false) (V3.putObj (w.heap.size + 1) (.loop (R .done (some c)))) ∧ ∃ c', Ix c' (k + 1) (V3.putObj (w.heap.size + 1) (.loop (R .done (some c)))) ∧ Book w.heap.size (R .done (some c')) (V3.putObj (w.heap.size + 1) (.loop (R .done (some c)))) := by
   intro c V3 h3 hx3
   have hb3 := hb2.keeps h3
   exact ⟨hend (some c) _ _ V3 hb3, c, (hIx c).putObj _ hx3 (by omega) hb3.loop rfl, hb3.put _⟩
  rintro e a3 V3 hp
  cases e with
  | normal =>
   obtain ⟨h3, hp3, hi3⟩ := hp
   have hb3 := hb2.keeps h3
   exact ⟨_, _, hend none _ _ V3 hb3, .inl ⟨rfl, ⟨hI.putObj _ hi3 (by omega) hb3.loop rfl, hb3.put _⟩, hKt hkp (hKt (hKt hk2 hp3) (hKb _ _ _ _ (by omega) hb3.loop rfl rfl))⟩⟩
  | ret => exact ⟨_, _, (hout .ret V3 hp.1 hp.2).1, .inr ⟨rfl, (hout .ret V3 hp.1 hp.2).2⟩⟩
  | exit id => exact ⟨_, _, (hout (.exit id) V3 hp.1 hp.2).1, .inr ⟨rfl, (hout (.exit id) V3 hp.1 hp.2).2⟩⟩
  | goto t => exact ⟨_, _, (hout (.goto t) V3 hp.1 hp.2).1, .inr ⟨rfl, (hout (.goto t) V3 hp.1 hp.2).2⟩⟩
  | panic ch => exact hp.elim
  | outgrown => exact hp.elim
 ·
  rintro e V ⟨⟨v, rfl⟩, (⟨hi, hbk⟩ | ⟨k, hk, c, hi, hbk⟩)⟩
  ·
   exact ⟨none, _, hshut .ready none V (by simp) hbk, hdone _ _ (Nat.le_refl _) (hI.putObj _ hi (by omega) hbk.loop rfl) ((World.putObj_heap_other (by omega)).trans hbk.mark)⟩
  ·
   exact ⟨some c, _, hshut .done (some c) V (by simp) hbk, hstop _ c k _ (Nat.le_refl _) hk ((hIx c).putObj _ hi (by omega) hbk.loop rfl) ((World.putObj_heap_other (by omega)).trans hbk.mark)⟩
end Go.ListRange
end
section
namespace Go.Proofs.YtjlpaagnajmogaaDoor.PWalk
open Go.RowKit Go.Proofs.YtjlpaagnajmogaaDoorW.PrintWords Go.Proofs.YtjlpaagnajmogaaDoorW.PrintLast Go.Proofs.YtjlpaagnajmogaaDoorW.PrintMore
set_option linter.unusedVariables false
set_option linter.unusedSimpArgs false
open Go.Shelf
attribute [local go_sem] Oper.semAt_some
set_option maxRecDepth 100000 in
set_option maxHeartbeats 1000000 in
theorem bkNodes_in (n lp Bs n₀ : Nat) (E : Nat → Prop) (A : Option Addr) (c0 : Nat) (xs : List Node) (hn : 1 ≤ n) (hm : xs.length ≤ 1000000) (J Jx : Nat → World → Prop)
  (hY : ∀ k x W, (bk xs)[k]? = some x → J k W → YieldAt Fence.wide (n - 1) Tryd.prog lp #[.int .i64 ((x : Nat × Node).1 : Int), vNode x.2] W fun e W' =>
   (e = .returned (.bool true) ∧ J (k + 1) W' ∧ KpE n₀ E W W') ∨ (e = .returned (.bool false) ∧ Jx (k + 1) W'))
  (W : World) (hBs : W.cell? ⟨Bs, 0, none⟩ = some (.slice A xs.length c0)) (hB0 : Bs < n₀) (hBE : ¬ E Bs) (hA : ∀ ad, A = some ad → 0 < xs.length → ad.block < n₀ ∧ ¬ E ad.block) (hr : Kd.C k37 W A xs.length xs) (h0 : J 0 W) :
  CallsIn Fence.wide n Tryd.prog 81 #[.func (.yield lp) #[] #[], .pointer (some ⟨Bs, 0, none⟩)] W fun e W' => (∃ v, e = .returned v) ∧
   (J (bk xs).length W' ∨ ∃ k, k ≤ (bk xs).length ∧ Jx k W') := by
 have hu := Tryd.underlying37
 have HY := Aside0.mk hY
 have HR := Aside0.mk hr
 have HA := Aside0.mk hA
 have HE := Aside0.mk hBE
 clear hY hr hA hBE
 refine callsIn_of_wp Tryd.func81 rfl trivial ?_ rfl
 simp only [Tryd.ntmps81, List.size_toArray, List.length_cons, List.length_nil, Nat.reduceAdd, Nat.reduceSub, Array.replicate_succ, Array.replicate_zero, List.push_toArray, List.append_toArray, List.nil_append, List.cons_append]
 gi_wp2
 gi_loopw [3] (fun i wr => ∃ k : Nat, k ≤ xs.length ∧ i = .int .i64 ((xs.length : Int) - 1 - k) ∧ Aside0 (J k wr) ∧ Aside0 (KpE n₀ E W wr)) (fun i _ => (intOf i + 1).toNat)
 case atStart => exact ⟨0, Nat.zero_le _, by simp, ⟨h0⟩, ⟨KpE.refl _ _ _⟩⟩
 case round =>
  obtain ⟨k, hk, rfl, hJ, hK⟩ := hrel
  have hs : wr.cell? ⟨Bs, 0, none⟩ = some (.slice A xs.length c0) := hK.out.cell (p := ⟨Bs, 0, none⟩) hB0 HE.out hBs
  by_cases hlt : k < xs.length
  ·
   obtain ⟨x, hx⟩ : ∃ x, Aside0 (xs[xs.length - 1 - k]? = some x) := ⟨_, ⟨List.getElem?_eq_getElem (by omega)⟩⟩
   obtain ⟨ad, e, g0, g1, g2, g3, g4, g5⟩ := node_at HR.out (Below.refl _ _) _ x hx.out
   subst e
   obtain ⟨ha, hae⟩ := HA.out ad rfl (by omega)
   have hbl : (ad.add ((xs.length - 1 - k) * 6)).block = ad.block := by unfold Addr.add; split <;> rfl
   replace g0 := hK.out.cell (p := ad.add ((xs.length - 1 - k) * 6)) (by rw [hbl]; exact ha) (by rw [hbl]; exact hae) g0
   replace g1 := hK.out.cell (p := ⟨_, _, none⟩) (by simp only [hbl]; exact ha) (by simp only [hbl]; exact hae) g1
   replace g2 := hK.out.cell (p := ⟨_, _, none⟩) (by simp only [hbl]; exact ha) (by simp only [hbl]; exact hae) g2
   replace g3 := hK.out.cell (p := ⟨_, _, none⟩) (by simp only [hbl]; exact ha) (by simp only [hbl]; exact hae) g3
   replace g4 := hK.out.cell (p := ⟨_, _, none⟩) (by simp only [hbl]; exact ha) (by simp only [hbl]; exact hae) g4
   replace g5 := hK.out.cell (p := ⟨_, _, none⟩) (by simp only [hbl]; exact ha) (by simp only [hbl]; exact hae) g5
   clear hbl hae ha
   have hx' : x = xs[xs.length - 1 - k]'(by omega) := by have := hx.out; rw [List.getElem?_eq_getElem (by omega)] at this; exact (Option.some.inj this).symm
   have HT : Aside0 ((bk xs)[k]? = some (xs.length - 1 - k, x)) := ⟨by rw [bk_get xs k hlt, hx']⟩
   clear hx'
   have hi : ((xs.length : Int) - 1 - k) = ((xs.length - 1 - k : Nat) : Int) := by omega
   rw [hi]
   obtain ⟨j, hj⟩ : ∃ j, Aside0 (j = xs.length - 1 - k) := ⟨_, ⟨rfl⟩⟩
   rw [← hj.out] at g0 g1 g2 g3 g4 g5 ⊢
   have hjl : j < xs.length := by rw [hj.out]; omega
   obtain ⟨fn, tmps, assign, body, hy, hR⟩ := HY.out k (j, x) wr (by rw [hj.out]; exact HT.out) hJ.out
   dsimp only at hy
   clear hi
   gi_wp2
   refine hR.mono ?_
   rintro e W3 (⟨rfl, hJ3, hk3⟩ | ⟨rfl, hJx3⟩)
   ·
    gi_wp2
    go_roundw
    case rel => exact ⟨k + 1, by omega, by rw [hj.out]; (try congr 1); (try omega), ⟨hJ3⟩, ⟨hK.out.trans hk3⟩⟩
    case measure => simp [intOf] <;> omega
   ·
    gi_wp2
    refine bodyPost_ret (results_none rfl _ _ _) rfl ?_
    exact ⟨⟨_, rfl⟩, .inr ⟨k + 1, by rw [bk_length]; omega, hJx3⟩⟩
  ·
   obtain rfl : k = xs.length := by omega
   have hi : ((xs.length : Int) - 1 - xs.length) = -1 := by omega
   rw [hi]
   clear hi
   gi_wp2
   go_end0
   exact ⟨⟨_, rfl⟩, .inl (by rw [bk_length]; exact hJ.out)⟩
def stepCells (p : Nat × Node) : List Value := nodeCells p.2 ++ [.int .i64 p.1]
def stepsOf (l : List (Nat × Node)) : List Value := l.flatMap stepCells
theorem stepCells_length (p : Nat × Node) : (stepCells p).length = 7 := rfl
theorem stepsOf_length (l : List (Nat × Node)) : (stepsOf l).length = l.length * 7 := by
 induction l with
 | nil => rfl
 | cons x l ih => rw [stepsOf, List.flatMap_cons, List.length_append, ← stepsOf, ih, stepCells_length]; simp; omega
theorem stepsOf_append (l m : List (Nat × Node)) : stepsOf (l ++ m) = stepsOf l ++ stepsOf m := by simp [stepsOf]
theorem stepsOf_one (p : Nat × Node) : stepsOf [p] = stepCells p := by simp [stepsOf]
theorem stepCells_one (p : Nat × Node) : ∀ u ∈ stepCells p, u.oneCell' = true := by
 intro u hu
 simp [stepCells, nodeCells] at hu
 rcases hu with rfl | rfl | rfl | rfl | rfl | rfl | rfl <;> rfl
/-- The row of the steps, the one that comes next at its end. -/
def Todo (W : World) (base : Nat) (u : Value) (S : List (Nat × Node)) : Prop := W.ownsRow base 137 7 u S.length (stepsOf S)
theorem Todo.nil (W : World) (base : Nat) : Todo W base (.slice none 0 0) [] := World.ownsRow_nil _ _ _ _
theorem Todo.keep {W V : World} {base : Nat} {u : Value} {S : List (Nat × Node)} (h : Todo W base u S) (hk : ∀ g, u.ownBlock = some g → V.heap[g]? = W.heap[g]?) : Todo V base u S := ownsRow_keep h hk
theorem Todo.block {W : World} {base : Nat} {u : Value} {S : List (Nat × Node)} (h : Todo W base u S) {g : Nat} (hg : u.ownBlock = some g) : base ≤ g ∧ ∃ cur, W.heap[g]? = some (.cells cur 137 (0, 0)) := by
 rcases h.2 with ⟨rfl, _⟩ | ⟨g', c, cur, rfl, hb, hcur, _⟩
 ·
  cases hg
 ·
  cases hg; exact ⟨hb, cur, hcur⟩
theorem Todo.below {W V : World} {base : Nat} {u : Value} {S : List (Nat × Node)} (h : Todo W base u S) (hb : Below W.heap.size W V) : Todo V base u S :=
 h.keep fun g hg => hb.block g (blk_lt (h.block hg).2.choose_spec)
theorem Todo.slice {W : World} {base : Nat} {u : Value} {S : List (Nat × Node)} (h : Todo W base u S) : ∃ A c, u = .slice A S.length c := ownsRow_slice h
theorem row_pop {w : World} {base : Nat} {e : TypeId} {size g cap n : Nat} {xs last : List Value} (hx : xs.length = n * size)
  (h : w.ownsRow base e size (.slice (some ⟨g, 0, none⟩) (n + 1) cap) (n + 1) (xs ++ last)) : w.ownsRow base e size (.slice (some ⟨g, 0, none⟩) n cap) n xs := by
 obtain ⟨_, ⟨h0, _⟩ | ⟨g', cap', cur, hv, hg, hh, hn, hcap, hsz, htake⟩⟩ := h
 ·
  cases h0
 ·
  cases hv
  refine ⟨hx, .inr ⟨g, cap, cur, rfl, hg, hh, by omega, hcap, hsz, ?_⟩⟩
  have h3 : (cur.toList.take ((n + 1) * size)).take (n * size) = (xs ++ last).take (n * size) := by rw [htake]
  rw [List.take_take, Nat.min_eq_left (Nat.mul_le_mul_right _ (by omega))] at h3
  rw [h3, ← hx, List.take_left]
/-- A row is the same, or a new one. -/
def RowOr (W : World) (u u' : Value) : Prop := u'.ownBlock = u.ownBlock ∨ ∃ b, u'.ownBlock = some b ∧ W.heap.size ≤ b
theorem RowOr.refl (W : World) (u : Value) : RowOr W u u := .inl rfl
theorem RowOr.trans {W V : World} {a b c : Value} (h : RowOr W a b) (k : RowOr V b c) (hs : W.heap.size ≤ V.heap.size) : RowOr W a c := by
 rcases k with e | ⟨x, e, hx⟩
 ·
  rcases h with h | ⟨x, h, hx⟩
  ·
   exact .inl (e.trans h)
  ·
   exact .inr ⟨x, e.trans h, hx⟩
 ·
  exact .inr ⟨x, e, Nat.le_trans hs hx⟩
/-- The last step, in its cells. -/
theorem Todo.last {W : World} {base : Nat} {u : Value} {S : List (Nat × Node)} {p : Nat × Node} (h : Todo W base u (S ++ [p])) :
  ∃ g c, u = .slice (some ⟨g, 0, none⟩) (S.length + 1) c ∧ base ≤ g ∧ (∃ cur, W.heap[g]? = some (.cells cur 137 (0, 0))) ∧ (∀ i v, (stepCells p)[i]? = some v → W.cell? ⟨g, S.length * 7 + i, none⟩ = some v) ∧ Todo W base (.slice (some ⟨g, 0, none⟩) S.length c) S := by
 have h' := h
 unfold Todo at h'
 rw [List.length_append, stepsOf_append, stepsOf_one] at h'
 obtain ⟨g, c, rfl⟩ := ownsRow_succ h'
 refine ⟨g, c, rfl, (h.block rfl).1, (h.block rfl).2, fun i v hv => ?_, row_pop (stepsOf_length S) h'⟩
 have hi : i < 7 := (List.getElem?_eq_some_iff.1 hv).1
 rw [h'.cellAt (S.length * 7 + i) (by omega), List.getElem?_append_right (by rw [stepsOf_length]; omega), stepsOf_length, Nat.add_sub_cancel_left]
 exact hv
theorem infoSt : (Tryd.prog.info? 137).map (fun i => (i.zero, i.size, i.bytes)) = some (some (.agg #[(.int .i64 0), (.int .i64 0), (.int .i64 0), (.int .i64 0), (.int .i64 0), (.int .i32 0), (.int .i64 0)]), 7, 56) := by kernel_rfl
/-- One step is put behind the others. -/
theorem run_append_step (base : Nat) (ty : TypeId) (u : Value) (S : List (Nat × Node)) (p : Nat × Node) (g c : Nat) (w : World) (hu : Todo w base u S) (hg : w.heap[g]? = some (.cells (stepCells p).toArray 137 (0, 0))) (hb : base ≤ w.heap.size) (hl : S.length + 1 ≤ 1000001) :
  ∃ u' w', (Builtin.append_ #[134, 134] ty #[u, .slice (some ⟨g, 0, none⟩) 1 c]).run Tryd.prog w = .ok u' w' ∧ Todo w' base u' (S ++ [p]) ∧ w.grownBy w' u.ownBlock ∧ (u'.ownBlock = u.ownBlock ∨ u'.ownBlock = some w.heap.size) := by
 obtain ⟨i, hi, hz⟩ : ∃ i, Tryd.prog.info? 137 = some i ∧ (i.zero, i.size, i.bytes) = _ := by
  have := infoSt
  rcases h : Tryd.prog.info? 137 with _ | i
  ·
   rw [h] at this; cases this
  ·
   rw [h] at this; exact ⟨i, rfl, Option.some.inj this⟩
 simp only [Prod.mk.injEq] at hz
 obtain ⟨v', w', h1, h2, h3, _, h4⟩ := run_append_own_at (P := Tryd.prog) w base 134 ty 137 i _ 7 56 Tryd.underlying134 hi hz.1 hz.2.1 hz.2.2 rfl (by decide) u S.length (stepsOf S) hu ⟨g, 0, none⟩ 1 c (stepCells p) rfl
  (fun j v hv => by rw [add_lit, blk_cell hg, Nat.zero_add, List.getElem?_toArray]; exact hv) (stepCells_one p) (by simp only [maxLen]; omega) (by omega) hb
 refine ⟨v', w', h1, ?_, h3, h4⟩
 unfold Todo
 rw [stepsOf_append, stepsOf_one, List.length_append]
 exact h2
theorem wpListIn_append_eq {F : Fence} {n : Nat} {P : Program} {ops : Array Oper} {rest : List Oper} {o : Oper} {a : Act} {Q : Exit → Act → World → Prop} (hgd : o.guard = none) (s x : Operand) (t : TypeId) (ho : o.op = .call { callee := .builtin .append, args := #[s, x], argTypes := #[t, t] }) {v1 v2 v' : Value} {w w' : World}
  (hs : a.eval s = v1) (hx : a.eval x = v2) (hrun : (Builtin.append_ #[t, t] o.type #[v1, v2]).run P w = .ok v' w') (h : wpListIn F n P ops Q rest (a.put o.dst v') w') : wpListIn F n P ops Q (o :: rest) a w := by
 refine wpListIn_plain hgd fun K hK => ?_
 unfold Oper.wpIn
 refine ⟨by simp [Oper.about, ho, resolve, Target.leads, Sem.run_pure], ?_⟩
 rw [Oper.semAt_plain F _ _ (by rw [ho]; intro c hc'; cases hc')]
 simp [execOp, ho, resolve, invoke, builtin, hs, hx, hrun, Result.andThen]
 exact hK _ _ h
abbrev TODOc (u : Value) : Obj := .cells #[u] 134 (0, 0)
abbrev dotC (d : Dot) : Obj := .cells #[.int .i64 d.f0, .int .i64 d.f1] 35 (0, 0)
def pushed (l : List Node) (d : Dot) (dep : Nat) (k : Nat) : List (Nat × Node) := ((bk (kids l d)).take k).map fun p => (dep, p.2)
theorem pushed_succ {l : List Node} {d : Dot} {dep k : Nat} {x : Nat × Node} (h : (bk (kids l d))[k]? = some x) : pushed l d dep (k + 1) = pushed l d dep k ++ [(dep, x.2)] := by
 unfold pushed
 have hk := (List.getElem?_eq_some_iff.1 h).1
 rw [List.take_succ_eq_append_getElem hk, (List.getElem?_eq_some_iff.1 h).2, List.map_append]; rfl
theorem pushed_all (l : List Node) (d : Dot) (dep : Nat) : pushed l d dep (bk (kids l d)).length = ((kids l d).map fun y => (dep, y)).reverse := by
 unfold pushed
 rw [List.take_length, bk, List.map_reverse, List.map_map]
 congr 1
 rw [show ((fun p : Nat × Node => (dep, p.2)) ∘ fun p : Node × Nat => (p.2, p.1)) = (fun y => (dep, y)) ∘ Prod.fst from rfl, ← List.map_map, List.zipIdx_map_fst]
theorem pushed_length (l : List Node) (d : Dot) (dep k : Nat) : (pushed l d dep k).length ≤ (kids l d).length := by
 unfold pushed
 rw [List.length_map, List.length_take, bk_length]; omega
theorem stepOf_kids_le (l : List Node) (d : Dot) : (kids l d).length ≤ l.length := by rw [(kids_perm l d).length_eq]; exact List.length_filter_le _ _
theorem Tch.marks {E : Nat → Prop} {w W W' : World} (h : Tch E w W) (hm : OnlyMarks w.heap.size W W') : Tch E w W' :=
 ⟨hm.os.trans h.os, hm.tape.trans h.tape, hm.output.trans h.output, by rw [hm.size]; exact h.size, fun i hi he => (hm.block i (.inl hi)).trans (h.block i hi he)⟩
/-- What push touches. -/
def PushE (T : Nat) (u : Value) (i : Nat) : Prop := i = T ∨ u.ownBlock = some i
set_option maxHeartbeats 1000000 in
set_option maxRecDepth 100000 in
theorem push_call (fb base mp F T : Nat) (l : List Node) (d : Dot) (dep : Nat) (S : List (Nat × Node)) (u : Value) (w : World) (hfam : Fams fb w mp l) (hF : w.heap[F]? = some (boxF mp)) (hT : w.heap[T]? = some (TODOc u)) (hu : Todo w base u S) (hb : base ≤ w.heap.size)
  (hl : l.length ≤ 1000000) (hS : S.length + (kids l d).length ≤ 1000000) :
  Calls Tryd.prog 100 #[vDot d, .int .i64 (dep : Int), .pointer (some ⟨F, 0, none⟩), .pointer (some ⟨T, 0, none⟩)] w fun e w' => (∃ v, e = .returned v) ∧
   ∃ u', w'.heap[T]? = some (TODOc u') ∧ Todo w' base u' (S ++ ((kids l d).map fun y => (dep, y)).reverse) ∧ RowOr w u u' ∧ Tch (PushE T u) w w' := by
 have HFM := Aside0.mk hfam
 have HF := Aside0.mk hF
 have HT := Aside0.mk hT
 have HU := Aside0.mk hu
 have HL := Aside0.mk hl
 have HS := Aside0.mk hS
 have HBW := Aside0.mk hb
 have hgr := ((Gr.alloc w (dotC d)).trans (Gr.alloc _ (.cells #[.int .i64 (dep : Int)] 3 (0, 0)))).below
 have HG := Aside0.mk hgr
 have HD : Aside0 (((w.alloc (dotC d)).alloc (.cells #[.int .i64 (dep : Int)] 3 (0, 0))).heap[w.heap.size]? = some (dotC d)) := ⟨blk_alloc (blk_new _ _) _⟩
 have HI : Aside0 (((w.alloc (dotC d)).alloc (.cells #[.int .i64 (dep : Int)] 3 (0, 0))).heap[w.heap.size + 1]? = some (.cells #[.int .i64 (dep : Int)] 3 (0, 0))) := ⟨by have := blk_new (w.alloc (dotC d)) (.cells #[.int .i64 (dep : Int)] 3 (0, 0)); rwa [World.size_alloc] at this⟩
 have hF1 := blk_keep hF hgr
 have c0 : ((w.alloc (dotC d)).alloc (.cells #[.int .i64 (dep : Int)] 3 (0, 0))).cell? ⟨F, 0, none⟩ = _ := (blk_cell hF1 0).trans rfl
 have c1 : ((w.alloc (dotC d)).alloc (.cells #[.int .i64 (dep : Int)] 3 (0, 0))).cell? ⟨w.heap.size, 0, none⟩ = _ := (blk_cell HD.out 0).trans rfl
 have c2 : ((w.alloc (dotC d)).alloc (.cells #[.int .i64 (dep : Int)] 3 (0, 0))).cell? ⟨w.heap.size, 1, none⟩ = _ := (blk_cell HD.out 1).trans rfl
 have HFM1 := Aside0.mk (hfam.below hgr)
 clear hfam hF hT hu hl hS hgr hF1 hb HFM
 refine calls_of_wp_m Tryd.func100 rfl ?_
 simp only [Tryd.ntmps100, List.size_toArray, List.length_cons, List.length_nil, Nat.reduceAdd, Nat.reduceSub, Array.replicate_succ, Array.replicate_zero, List.push_toArray, List.append_toArray, List.nil_append, List.cons_append]
 go_wp2_with fail
 refine (of_call fb mp l d _ HFM1.out).mono ?_
 rintro e w1 ⟨v, rfl, hr, hb1⟩
 obtain ⟨A, c, rfl⟩ := Kd.R_slice hr
 obtain ⟨n, Hn⟩ : ∃ n, Aside0 ((kids l d).length = n) := ⟨_, ⟨rfl⟩⟩
 rw [Hn.out] at hr
 rw [Hn.out]
 have HR := Aside0.mk hr
 have HB := Aside0.mk (below_more HG.out hb1)
 have HI := Aside0.mk (blk_keep HI.out hb1)
 clear hr hb1 c0 c1 c2 HD HG
 go_wp2_with fail
 refine (BackwardNode.calls A n c w1).mono ?_
 rintro e w2 ⟨rfl, rfl⟩
 go_wp2_with fail
 have HBS : Aside0 ((w1.alloc (.cells #[.slice A n c] 22)).heap[w1.heap.size]? = some (.cells #[.slice A n c] 22 (0, 0))) := ⟨blk_new _ _⟩
 have hg1 := (Gr.alloc w1 (.cells #[.slice A n c] 22 (0, 0))).below
 have HR1 := Aside0.mk (HR.out.below' hg1)
 have HI1 := Aside0.mk (blk_keep HI.out hg1)
 have HB1 := Aside0.mk (below_more HB.out hg1)
 have HBSz : Aside0 (w1.heap.size < (w1.alloc (.cells #[.slice A n c] 22)).heap.size) := ⟨by rw [World.size_alloc]; omega⟩
 have HDz : Aside0 (w.heap.size + 1 < (w1.alloc (.cells #[.slice A n c] 22)).heap.size) := ⟨Nat.lt_of_lt_of_le (blk_lt HI.out) (by rw [World.size_alloc]; omega)⟩
 clear hg1 HR HI HB
 generalize w1.alloc (.cells #[.slice A n c] 22 (0, 0)) = W1 at *
 obtain ⟨Bs, HBs⟩ : ∃ Bs, Aside0 (w1.heap.size = Bs) := ⟨_, ⟨rfl⟩⟩
 obtain ⟨Di, HDi⟩ : ∃ Di, Aside0 (w.heap.size + 1 = Di) := ⟨_, ⟨rfl⟩⟩
 obtain ⟨Dd, HDd⟩ : ∃ Dd, Aside0 (w.heap.size = Dd) := ⟨_, ⟨rfl⟩⟩
 rw [HBs.out] at HBS HBSz ⊢
 rw [HDi.out] at HI1 HDz ⊢
 rw [show (Value.pointer (some { block := w.heap.size, off := 0 })) = .pointer (some ⟨Dd, 0, none⟩) by rw [HDd.out]]
 have HT1 := Aside0.mk (blk_keep HT.out HB1.out)
 have HU1 := Aside0.mk (HU.out.below HB1.out)
 have HA : Aside0 (∀ i cells t, W1.heap[i]? = some (.cells cells t (0, 0)) → t ≠ 134 → t ≠ 137 → ¬ PushE T u i) := ⟨by
  rintro i cells t h h1 h2 (rfl | e)
  ·
   rw [HT1.out] at h; exact h1 (Obj.cells.inj (Option.some.inj h)).2.1.symm
  ·
   obtain ⟨cur, hc⟩ := (HU1.out.block e).2
   rw [hc] at h; exact h2 (Obj.cells.inj (Option.some.inj h)).2.1.symm⟩
 refine wpIn_wide.1 (ListRange.wpIn_range (n := 9) (F := Fence.wide) rfl (by decide) (gf := 81) (lb := #[.pointer (some ⟨Bs, 0, none⟩)]) rfl trivial Tryd.call81
  (encs := fun x : Nat × Node => #[.int .i64 (x.1 : Int), vNode x.2]) (Kp := KpE W1.heap.size (PushE T u)) (L := bk (kids l d)) (w0 := W1)
  (fun lp J Jx W hWW _ _ hY h0 => bkNodes_in 8 lp Bs W1.heap.size (PushE T u) A c (kids l d) (by decide) (Nat.le_trans (stepOf_kids_le l d) HL.out) J Jx hY W (by rw [Hn.out]; exact (hWW.cell (p := ⟨Bs, 0, none⟩) HBSz.out).trans ((blk_cell HBS.out 0).trans rfl)) HBSz.out
   (HA.out Bs _ _ HBS.out (by decide) (by decide))
   (fun ad e hp => by
    obtain ⟨g, cap, e2, _, hlt, cells, hce⟩ := Kd.R_form HR1.out hp
    cases e2; cases e
    exact ⟨hlt, HA.out _ _ _ hce (by decide) (by decide)⟩)
   (by obtain ⟨_, _, e, _, hC⟩ := Kd.R_reads HR1.out; cases e; exact Kd.C_below hC hWW) h0)
  (fun h k => h.trans k) (fun W l o o' hl _ _ _ => KpE.put (Nat.le_refl _) W l o o' hl) (Below.refl _ _) (fun _ => rfl)
  (fun k W => ∃ u', W.heap[T]? = some (TODOc u') ∧ Todo W base u' (S ++ pushed l d dep k) ∧ RowOr W1 u u' ∧ Tch (PushE T u) W1 W)
  (fun _ _ _ => False)
  ?own (fun _ _ _ _ _ hs _ _ => hs) ⟨u, HT1.out, by rw [show pushed l d dep 0 = [] from rfl, List.append_nil]; exact HU1.out, RowOr.refl _ _, ⟨rfl, rfl, rfl, Nat.le_refl _, fun _ _ _ => rfl⟩⟩
  (fun x a' W => ∃ Nb, W1.heap.size ≤ Nb ∧ W.heap[Nb]? = some (boxN x.2) ∧ a' = { tmps := #[vDot d, .int .i64 (dep : Int), .pointer (some ⟨F, 0, none⟩), .pointer (some ⟨T, 0, none⟩), .pointer (some ⟨Dd, 0, none⟩), .pointer (some ⟨Di, 0, none⟩), undef, .pointer (some ⟨Nb, 0, none⟩), vFam mp, vDot d, .slice A n c, .func (.func 81) #[] #[.pointer (some ⟨Bs, 0, none⟩)], .int .i64 (x.1 : Int), vNode x.2, undef, undef, undef, undef, undef, undef], defers := [] })
  (fun x a' _ W W' row hs hg hr => by
   obtain ⟨Nb, h1, h2, h3⟩ := hs
   exact ⟨Nb, h1, (hg.block Nb (blk_lt h2) (fun e => by obtain ⟨_, o, ho, hc⟩ := hr Nb e.symm; rw [h2] at ho; cases ho; cases hc)).trans h2, h3⟩)
  ?assign ?body ?done ?stop)
 case own =>
  rintro k W W' row ⟨u', h1, h2, h4, h3⟩ hg hr
  have hnc : ∀ q cells t, W.heap[q]? = some (Obj.cells cells t (0, 0)) → W'.heap[q]? = W.heap[q]? := fun q cells t hq => hg.block q (blk_lt hq) (fun e => by obtain ⟨_, o, ho, hc⟩ := hr q e.symm; rw [hq] at ho; cases ho; cases hc)
  exact ⟨u', (hnc T _ _ h1).trans h1, h2.keep (fun g hgg => by obtain ⟨_, cur, hcur⟩ := h2.block hgg; exact hnc _ _ _ hcur), h4, h3.trans (Tch.grown (E := fun i => W1.heap.size ≤ i) hg (fun r e => (hr r e).1)) (fun i hi e => by omega)⟩
 case assign =>
  rintro lp k x W K hx ⟨u', h1, h2, h4, h3⟩ hK
  gi_wp2
  exact hK _ _ ((KeepsOthers.alloc _ _).from _) (KpE.below ((Below.refl _ W).alloc h3.size _)) ⟨u', blk_alloc h1 _, h2.below (Gr.alloc W _).below, h4, h3.trans (Tch.below (E := fun _ => False) (Gr.alloc W _).below) (fun _ _ h => h.elim)⟩ ⟨W.heap.size, h3.size, blk_new _ _, rfl⟩
 case body =>
  rintro lp k x a' W hx hl2 ⟨rr, hrr⟩ ⟨u', h1, h2, h4, h3⟩ ⟨Nb, hx1, hx2, rfl⟩
  obtain ⟨A', c', rfl⟩ := h2.slice
  obtain ⟨n', Hn'⟩ : ∃ n', Aside0 ((S ++ pushed l d dep k).length = n') := ⟨_, ⟨rfl⟩⟩
  rw [Hn'.out] at h1 h2 h4
  have hlt : n' ≤ 1000000 := by have h1 := Hn'.out; have h2 := pushed_length l d dep k; have h3 := HS.out; rw [List.length_append] at h1; omega
  have cT : W.cell? ⟨T, 0, none⟩ = _ := (blk_cell h1 0).trans rfl
  have n0 : W.cell? ⟨Nb, 0, none⟩ = _ := (blk_cell hx2 0).trans rfl
  have n1 : W.cell? ⟨Nb, 1, none⟩ = _ := (blk_cell hx2 1).trans rfl
  have n2 : W.cell? ⟨Nb, 2, none⟩ = _ := (blk_cell hx2 2).trans rfl
  have n3 : W.cell? ⟨Nb, 3, none⟩ = _ := (blk_cell hx2 3).trans rfl
  have n4 : W.cell? ⟨Nb, 4, none⟩ = _ := (blk_cell hx2 4).trans rfl
  have n5 : W.cell? ⟨Nb, 5, none⟩ = _ := (blk_cell hx2 5).trans rfl
  have hDI : W.heap[Di]? = some (.cells #[.int .i64 (dep : Int)] 3 (0, 0)) := (h3.block Di HDz.out (HA.out Di _ _ HI1.out (by decide) (by decide))).trans HI1.out
  have cD : W.cell? ⟨Di, 0, none⟩ = _ := (blk_cell hDI 0).trans rfl
  have hb0 : base ≤ W.heap.size := Nat.le_trans HBW.out (Nat.le_trans HB1.out.size h3.size)
  obtain ⟨u2, w2, hrun, htd, hgr, hat⟩ := run_append_step base 134 (.slice A' n' c') (S ++ pushed l d dep k) (dep, x.2) W.heap.size 1 (W.alloc (.cells (stepCells (dep, x.2)).toArray 137 (0, 0))) (h2.below (Gr.alloc W _).below) (blk_new _ _) (Nat.le_trans hb0 (by rw [World.size_alloc]; omega)) (by rw [Hn'.out]; omega)
  obtain ⟨A2, c2, rfl⟩ := htd.slice
  obtain ⟨m2, hn2⟩ : ∃ m2, (S ++ pushed l d dep k ++ [(dep, x.2)]).length = m2 := ⟨_, rfl⟩
  rw [hn2] at hrun htd hat
  clear hn2
  have hTne : some T ≠ (Value.slice A' n' c').ownBlock := fun e => by
   obtain ⟨_, cur, hc⟩ := h2.block e.symm
   rw [h1] at hc
   exact absurd (Obj.cells.inj (Option.some.inj hc)).2.1 (by decide)
  have hT2 : w2.heap[T]? = some (TODOc (.slice A' n' c')) := (hgr.block T (Nat.lt_of_lt_of_le (blk_lt h1) (by rw [World.size_alloc]; omega)) hTne).trans (blk_alloc h1 _)
  have cT2 : w2.cell? ⟨T, 0, none⟩ = _ := (blk_cell hT2 0).trans rfl
  have fT2 := blk_frozen hT2 0
  have HT2 := Aside0.mk hT2
  have HTne := Aside0.mk hTne
  have HRUN := Aside0.mk hrun
  have H4 := Aside0.mk h4
  have HAT := Aside0.mk hat
  have H1 := Aside0.mk h1
  have H2 := Aside0.mk h2
  have H3 := Aside0.mk h3
  have HTD := Aside0.mk htd
  have HGR := Aside0.mk hgr
  have HX := Aside0.mk hx
  clear h1 h2 h3 h4 hat hx hx1 hx2 hDI hb0 htd hgr hrun hT2 hTne
  obtain ⟨x0, x1⟩ := x
  dsimp only at n0 n1 n2 n3 n4 n5 ⊢
  gi_wp2_with (gi_at_builtin; refine wpListIn_append_eq rfl (.tmp 14) (.tmp 18) 134 rfl rfl rfl HRUN.out ?_)
  obtain ⟨u2, hu2⟩ : ∃ u2, Value.slice A2 m2 c2 = u2 := ⟨_, rfl⟩
  have HAT := HAT.out
  have HTD := HTD.out
  rw [hu2] at HAT HTD ⊢
  have hV : ∀ q, q ≠ T → (w2.setCell ⟨T, 0, none⟩ u2).heap[q]? = w2.heap[q]? := fun q hq => Below.heap_setCell w2 _ _ q hq
  have hq2 : ∀ q, q < W.heap.size → q ≠ T → (Value.slice A' n' c').ownBlock ≠ some q → (w2.setCell ⟨T, 0, none⟩ u2).heap[q]? = W.heap[q]? := fun q hq h1 h2 => by
   rw [hV q h1, HGR.out.block q (by rw [World.size_alloc]; omega) (fun e => h2 e.symm), Below.heap_alloc W _ q hq]
  have hsz : W.heap.size ≤ (w2.setCell ⟨T, 0, none⟩ u2).heap.size := by rw [World.size_setCell]; exact Nat.le_trans (by rw [World.size_alloc]; omega) HGR.out.size
  have hrow : RowOr W1 u u2 := by
   refine H4.out.trans (V := W) (b := .slice A' n' c') ?_ H3.out.size
   rcases HAT with e | e
   ·
    exact .inl e
   ·
    exact .inr ⟨_, e, by rw [World.size_alloc]; omega⟩
  have hnE : ∀ q, q < W1.heap.size → ¬ PushE T u q → q ≠ T ∧ (Value.slice A' n' c').ownBlock ≠ some q := fun q hq hE => ⟨fun e => hE (.inl e), fun e => by
   rcases H4.out with h | ⟨b, h, hb⟩
   ·
    exact hE (.inr (h ▸ e))
   ·
    rw [h] at e; have := Option.some.inj e; omega⟩
  refine ⟨⟨hsz, fun q o hB hq hoc => (hq2 q (blk_lt hq) (fun e => ?_) (fun e => ?_)).trans hq⟩, ⟨hsz, fun q hq hE => hq2 q (Nat.lt_of_lt_of_le hq H3.out.size) (hnE q hq hE).1 (hnE q hq hE).2⟩, u2, ?_, ?_, hrow, ?_⟩
  ·
   subst e; rw [H1.out] at hq; cases hq; cases hoc
  ·
   obtain ⟨_, cur, hc⟩ := H2.out.block e
   rw [hc] at hq; cases hq; cases hoc
  ·
   exact blk_set HT2.out 0 _
  ·
   rw [pushed_succ HX.out, ← List.append_assoc]
   refine HTD.keep (fun g hg => hV g (fun e => ?_))
   subst e
   obtain ⟨_, cur, hc⟩ := HTD.block hg
   rw [HT2.out] at hc
   exact absurd (Obj.cells.inj (Option.some.inj hc)).2.1 (by decide)
  ·
   refine H3.out.trans (E' := fun i => i = T ∨ (Value.slice A' n' c').ownBlock = some i) ⟨?_, ?_, ?_, hsz, fun q hq hE => hq2 q hq (fun e => hE (.inl e)) (fun e => hE (.inr e))⟩ (fun i hi hE => Classical.byContradiction fun hn => ?_)
   ·
    exact HGR.out.os
   ·
    exact HGR.out.tape
   ·
    exact HGR.out.output
   ·
    obtain ⟨h1, h2⟩ := hnE i hi hn
    exact hE.elim h1 h2
 case done =>
  rintro D W hD ⟨u', h1, h2, h4, h3⟩ hDK
  rw [pushed_all] at h2
  have HEND : Aside0 (W.heap[T]? = some (TODOc u') ∧ Todo W base u' (S ++ ((kids l d).map fun y => (dep, y)).reverse) ∧ RowOr w u u' ∧ Tch (PushE T u) w W) := ⟨h1, h2, (RowOr.refl w u).trans h4 HB1.out.size, (Tch.below HB1.out).trans h3 (fun i _ e => e)⟩
  have HD := Aside0.mk hD
  have HDK := Aside0.mk hDK
  clear h1 h2 h3 h4 hD hDK
  go_wp2
  refine leaves_of_marks2 (n0 := w.heap.size) [mkMark D] _ ⟨[D], rfl, by simp, fun E hE => ?_⟩ (fun W' hm => ⟨_, results_none rfl _ _ W', ⟨_, rfl⟩, u', (hm.block T (.inr fun o e => ?_)).trans HEND.out.1, HEND.out.2.1.keep (fun g hg => hm.block g (.inr fun o e => ?_)), HEND.out.2.2.1, HEND.out.2.2.2.marks hm⟩)
  ·
   simp only [List.mem_singleton] at hE
   subst hE
   exact ⟨Nat.le_trans HB1.out.size HD.out, HDK.out⟩
  ·
   rw [HEND.out.1] at e; cases e
  ·
   obtain ⟨_, cur, hc⟩ := HEND.out.2.1.block hg
   rw [hc] at e; cases e
 case stop =>
  rintro D c k W _ _ h _
  exact h.elim
/-- The types of the blocks that families.below keeps for itself. -/
def ownT (t : Nat) : Prop := t = 121 ∨ t = 137 ∨ t = 134
instance (t : Nat) : Decidable (ownT t) := by unfold ownT; infer_instance
structure KpT (n : Nat) (E : Nat → Prop) (W W' : World) : Prop where
 kp : KpE n E W W'
 own : ∀ (i : Nat) (c : Array Value) (t : Nat), W.heap[i]? = some (.cells c t (0, 0)) → ownT t → W'.heap[i]? = some (.cells c t (0, 0))
theorem KpT.trans {n : Nat} {E : Nat → Prop} {A B C : World} (h : KpT n E A B) (k : KpT n E B C) : KpT n E A C := ⟨h.kp.trans k.kp, fun i c t hi ht => k.own i c t (h.own i c t hi ht) ht⟩
theorem KpT.below {n : Nat} {E : Nat → Prop} {A B : World} (h : Below A.heap.size A B) (hn : n ≤ A.heap.size) : KpT n E A B := ⟨KpE.below (h.mono hn), fun i c t hi _ => blk_keep hi h⟩
theorem KpT.put {n m : Nat} {E : Nat → Prop} (hn : n ≤ m) (W : World) (l : Nat) (o o' : Obj) (hl : m ≤ l) (ho : W.heap[l]? = some o) (hc : o.isCells = false) : KpT n E W (W.putObj l o') :=
 ⟨KpE.put hn W l o o' hl, fun i c t hi _ => (World.putObj_heap_other (fun e => by subst e; rw [hi] at ho; cases ho; cases hc)).trans hi⟩
def famBl (mp : Nat) (v : Value) (vs : List Value) (i : Nat) : Prop := i = mp ∨ v.ownBlock = some i ∨ ∃ u ∈ vs, u.ownBlock = some i
theorem zip_of_mem {ks : List Dot} {vs : List Value} (hl : vs.length = ks.length) {u : Value} (hu : u ∈ vs) : ∃ d, (d, u) ∈ ks.zip vs := by
 obtain ⟨i, hi⟩ := List.getElem?_of_mem hu
 have hil := (List.getElem?_eq_some_iff.1 hi).1
 exact ⟨ks[i]'(by omega), List.mem_of_getElem? (i := i) (by rw [List.getElem?_zip_eq_some]; exact ⟨List.getElem?_eq_getElem _, hi⟩)⟩
theorem FamSt.typed {base : Nat} {W : World} {mp : Nat} {v : Value} {ks : List Dot} {vs : List Value} {fam : Dot → List Node} (h : FamSt base W mp v ks vs fam) {i : Nat} (hi : famBl mp v vs i) :
  ∃ (c : Array Value) (t : Nat), W.heap[i]? = some (.cells c t (0, 0)) ∧ (t = 141 ∨ t = 144 ∨ t = 37) := by
 rcases hi with rfl | e | ⟨u, hu, e⟩
 ·
  exact ⟨_, _, h.map.map, .inl rfl⟩
 ·
  rcases h.map.row.2 with ⟨rfl, _⟩ | ⟨g', c, cur, rfl, _, hcur, _⟩
  ·
   cases e
  ·
   cases e; exact ⟨_, _, hcur, .inr (.inl rfl)⟩
 ·
  obtain ⟨d, hd⟩ := zip_of_mem h.map.len hu
  obtain ⟨_, cur, hc⟩ := (h.rows d u hd).block e
  exact ⟨_, _, hc, .inr (.inr rfl)⟩
theorem FamSt.keep {base : Nat} {W V : World} {mp : Nat} {v : Value} {ks : List Dot} {vs : List Value} {fam : Dot → List Node} (h : FamSt base W mp v ks vs fam) (hk : ∀ i, famBl mp v vs i → V.heap[i]? = W.heap[i]?) : FamSt base V mp v ks vs fam :=
 ⟨h.map.keep (hk mp (.inl rfl)) (fun g hg => hk g (.inr (.inl hg))), fun d u hm => (h.rows d u hm).keep (fun g hg => hk g (.inr (.inr ⟨u, (List.of_mem_zip hm).2, hg⟩))), h.sep, h.none⟩
/-- The families of l, in blocks below n that are not in E. -/
def FamsIn (fb n : Nat) (E : Nat → Prop) (W : World) (mp : Nat) (l : List Node) : Prop := ∃ v ks vs, FamSt fb W mp v ks vs (kids l) ∧ ∀ i, famBl mp v vs i → i < n ∧ ¬ E i
theorem FamsIn.fams {fb n : Nat} {E : Nat → Prop} {W : World} {mp : Nat} {l : List Node} (h : FamsIn fb n E W mp l) : Fams fb W mp l := by
 obtain ⟨v, ks, vs, h, _⟩ := h
 exact ⟨v, ks, vs, h⟩
theorem FamsIn.of {fb n : Nat} {E : Nat → Prop} {W : World} {mp : Nat} {l : List Node} (h : Fams fb W mp l) (hn : W.heap.size ≤ n) (hE : ∀ (i : Nat) (c : Array Value) (t : Nat), E i → W.heap[i]? = some (.cells c t (0, 0)) → t ≠ 141 ∧ t ≠ 144 ∧ t ≠ 37) : FamsIn fb n E W mp l := by
 obtain ⟨v, ks, vs, h⟩ := h
 refine ⟨v, ks, vs, h, fun i hi => ?_⟩
 obtain ⟨c, t, hc, ht⟩ := h.typed hi
 refine ⟨Nat.lt_of_lt_of_le (blk_lt hc) hn, fun he => ?_⟩
 obtain ⟨h1, h2, h3⟩ := hE i c t he hc
 rcases ht with e | e | e
 ·
  exact h1 e
 ·
  exact h2 e
 ·
  exact h3 e
theorem FamsIn.kp {fb n : Nat} {E : Nat → Prop} {W V : World} {mp : Nat} {l : List Node} (h : FamsIn fb n E W mp l) (hk : KpE n E W V) : FamsIn fb n E V mp l := by
 obtain ⟨v, ks, vs, h, hb⟩ := h
 exact ⟨v, ks, vs, h.keep fun i hi => hk.2 i (hb i hi).1 (hb i hi).2, hb⟩
theorem FamsIn.below {fb n : Nat} {E : Nat → Prop} {W V : World} {mp : Nat} {l : List Node} (h : FamsIn fb n E W mp l) (hb : Below W.heap.size W V) : FamsIn fb n E V mp l := by
 obtain ⟨v, ks, vs, h, h2⟩ := h
 exact ⟨v, ks, vs, h.below hb, h2⟩
theorem FamsIn.tch {fb n : Nat} {E X : Nat → Prop} {W V : World} {mp : Nat} {l : List Node} (h : FamsIn fb n E W mp l) (hk : Tch X W V) (hX : ∀ (i : Nat) (c : Array Value) (t : Nat), X i → W.heap[i]? = some (.cells c t (0, 0)) → ownT t) : FamsIn fb n E V mp l := by
 obtain ⟨v, ks, vs, h, hb⟩ := h
 refine ⟨v, ks, vs, h.keep fun i hi => ?_, hb⟩
 obtain ⟨c, t, hc, ht⟩ := h.typed hi
 refine hk.block i (blk_lt hc) fun hx => ?_
 have := hX i c t hx hc
 rcases ht with rfl | rfl | rfl <;> revert this <;> decide
theorem mv_tch {X : Nat → Prop} {b : Nat} {W V : World} (hk : Tch X W V) (hX : ∀ i, i < W.heap.size → X i → b ≤ i ∧ ∃ (c : Array Value) (t : Nat), W.heap[i]? = some (.cells c t (0, 0)) ∧ ownT t) : ListRange.Mv ownT b W V :=
 ⟨hk.os, hk.tape, hk.output, hk.size, fun i hi hc => hk.block i hi fun hx => by
  obtain ⟨h1, c, t, h2, h3⟩ := hX i hi hx
  rcases hc with h | h
  ·
   omega
  ·
   exact h c t h2 h3⟩
/-- What waits on the stack, its top at the end. -/
structure Stk (l : List Node) (dep : Nat) (d : Dot) (k : Nat) (S : List (Nat × Node)) : Prop where
 rest : restOf l S.reverse = (belowOf l dep d).drop k
 way : ∀ p ∈ S, ∃ V, Path l p.2.f0 (p.2 :: V) ∧ p.1 ≤ V.length + dep
theorem Stk.le {l : List Node} {dep : Nat} {d : Dot} {k : Nat} {S : List (Nat × Node)} (h : Stk l dep d k S) : S.length ≤ (belowOf l dep d).length := by
 have := restOf_le l S.reverse
 rw [h.rest, List.length_drop, List.length_reverse] at this
 omega
theorem Stk.start {l : List Node} (hs : Store l) {d : Dot} {U : List Node} (h : Path l d U) (dep : Nat) : Stk l dep d 0 ((kids l d).map fun y => (dep, y)).reverse := by
 refine ⟨by rw [List.reverse_reverse, restOf_kids hs h dep, List.drop_zero], fun p hp => ?_⟩
 obtain ⟨y, hy, rfl⟩ := List.mem_map.1 (List.mem_reverse.1 hp)
 obtain ⟨hy, e⟩ := mem_kids.1 hy
 exact ⟨U, .step d U y h hy e, by simp⟩
theorem Stk.empty {l : List Node} {dep : Nat} {d : Dot} {k : Nat} (h : Stk l dep d k []) : (belowOf l dep d).length ≤ k := by
 have := congrArg List.length h.rest
 rw [List.length_drop] at this
 simp [restOf] at this
 omega
theorem Stk.step {l : List Node} (hs : Store l) {dep : Nat} {d : Dot} {k : Nat} {S : List (Nat × Node)} {p : Nat × Node} (h : Stk l dep d k (S ++ [p])) :
  (belowOf l dep d)[k]? = some p ∧ Stk l dep d (k + 1) (S ++ ((kids l p.2.f0).map fun y => (p.1 + 1, y)).reverse) := by
 obtain ⟨V, hV, hp⟩ := h.way p (by simp)
 have hr := h.rest
 rw [List.reverse_append, List.reverse_singleton, List.singleton_append, restOf_cons hs hV] at hr
 have hk : k < (belowOf l dep d).length := by
  refine Nat.lt_of_not_le fun hk => ?_
  rw [List.drop_eq_nil_of_le hk] at hr; cases hr
 rw [List.drop_eq_getElem_cons hk] at hr
 refine ⟨by rw [List.getElem?_eq_getElem hk, ← (List.cons.inj hr).1], by rw [List.reverse_append, List.reverse_reverse]; exact (List.cons.inj hr).2, fun q hq => ?_⟩
 rcases List.mem_append.1 hq with hq | hq
 ·
  exact h.way q (List.mem_append_left _ hq)
 ·
  obtain ⟨y, hy, rfl⟩ := List.mem_map.1 (List.mem_reverse.1 hq)
  obtain ⟨hy, e⟩ := mem_kids.1 hy
  exact ⟨p.2 :: V, .step _ _ y hV hy e, by simp; omega⟩
abbrev boxS (p : Nat × Node) : Obj := .cells #[.int .i64 p.2.f0.f0, .int .i64 p.2.f0.f1, .int .i64 p.2.f1.f0, .int .i64 p.2.f1.f1, .int .i64 p.2.f2, .int .i32 p.2.f3, .int .i64 (p.1 : Int)] 137 (0, 0)
theorem Todo.cap {W : World} {base g m c : Nat} {S : List (Nat × Node)} (h : Todo W base (.slice (some ⟨g, 0, none⟩) m c) S) : m ≤ c ∧ c ≤ maxLen := by
 rcases h.2 with ⟨e, _⟩ | ⟨g', c', cur, e, _, _, h1, h2, _⟩
 ·
  cases e
 ·
  cases e; exact ⟨h1, h2⟩
/-- How the loop stands after k rounds. -/
structure BlwF (fb n₀ : Nat) (E : Nat → Prop) (J : Nat → World → Prop) (mp F T b0 : Nat) (l : List Node) (dep : Nat) (d : Dot) (k : Nat) (S : List (Nat × Node)) (u : Value) (W : World) : Prop where
 stk : Stk l dep d k S
 todoC : W.heap[T]? = some (TODOc u)
 row : Todo W b0 u S
 low : b0 ≤ T ∧ b0 ≤ W.heap.size
 fam : FamsIn fb n₀ E W mp l
 box : W.heap[F]? = some (boxF mp)
 j : J k W
theorem BlwF.mv {b0 : Nat} {W V : World} {b T : Nat} {u : Value} (hb : b ≤ b0) (hT : b0 ≤ T) (hC : W.heap[T]? = some (TODOc u)) (hR : ∀ g, u.ownBlock = some g → b0 ≤ g ∧ ∃ cur, W.heap[g]? = some (.cells cur 137 (0, 0))) (h : Tch (PushE T u) W V) : ListRange.Mv ownT b W V := by
 refine mv_tch h fun i hi hx => ?_
 rcases hx with rfl | e
 ·
  exact ⟨Nat.le_trans hb hT, _, _, hC, .inr (.inr rfl)⟩
 ·
  obtain ⟨h1, cur, h2⟩ := hR i e
  exact ⟨Nat.le_trans hb h1, _, _, h2, .inr (.inl rfl)⟩
theorem BlwF.fams {fb n₀ : Nat} {E : Nat → Prop} {mp : Nat} {l : List Node} {b0 : Nat} {W V : World} {T : Nat} {u : Value} (hf : FamsIn fb n₀ E W mp l) (hC : W.heap[T]? = some (TODOc u)) (hR : ∀ g, u.ownBlock = some g → b0 ≤ g ∧ ∃ cur, W.heap[g]? = some (.cells cur 137 (0, 0))) (h : Tch (PushE T u) W V) : FamsIn fb n₀ E V mp l := by
 refine hf.tch h fun i c t hx hi => ?_
 rcases hx with rfl | e
 ·
  rw [hC] at hi; cases hi; exact .inr (.inr rfl)
 ·
  obtain ⟨_, cur, h2⟩ := hR i e
  rw [h2] at hi; cases hi; exact .inr (.inl rfl)
theorem push_far {W V : World} {b0 T : Nat} {u : Value} (hC : W.heap[T]? = some (TODOc u)) (hR : ∀ g, u.ownBlock = some g → b0 ≤ g ∧ ∃ cur, W.heap[g]? = some (.cells cur 137 (0, 0))) (h : Tch (PushE T u) W V) {i : Nat} {c : Array Value} {t : Nat} (hi : W.heap[i]? = some (.cells c t (0, 0))) (ht : t ≠ 137 ∧ t ≠ 134) : V.heap[i]? = some (.cells c t (0, 0)) := by
 refine (h.block i (blk_lt hi) fun hx => ?_).trans hi
 rcases hx with rfl | e
 ·
  rw [hC] at hi; cases hi; exact ht.2 rfl
 ·
  obtain ⟨_, cur, h2⟩ := hR i e
  rw [h2] at hi; cases hi; exact ht.1 rfl
set_option maxHeartbeats 2000000 in
set_option maxRecDepth 100000 in
theorem below_in (n lp fb n₀ mp : Nat) (E : Nat → Prop) (l : List Node) (d : Dot) (dep : Nat) (U : List Node) (hn : 1 ≤ n) (hs : Store l) (hU : Path l d U) (hl : l.length ≤ 1000000) (hlen : (belowOf l dep d).length ≤ 1000000) (hdep : dep ≤ 1000000) (J Jx : Nat → World → Prop) (W : World)
  (hm : ∀ k A B, ListRange.Mv ownT W.heap.size A B → J k A → J k B)
  (hY : ∀ k x V, (belowOf l dep d)[k]? = some x → J k V → YieldAt Fence.wide (n - 1) Tryd.prog lp #[.int .i64 ((x : Nat × Node).1 : Int), vNode x.2] V fun e V' =>
   (e = .returned (.bool true) ∧ J (k + 1) V' ∧ KpT n₀ E V V') ∨ (e = .returned (.bool false) ∧ Jx (k + 1) V'))
  (hF : FamsIn fb n₀ E W mp l) (h0 : J 0 W) :
  CallsIn Fence.wide n Tryd.prog 93 #[vFam mp, vDot d, .int .i64 (dep : Int), .func (.yield lp) #[] #[]] W fun e V => (∃ v, e = .returned v) ∧
   (J (belowOf l dep d).length V ∨ ∃ k, k ≤ (belowOf l dep d).length ∧ Jx k V) := by
 have HM := Aside0.mk hm
 have HY := Aside0.mk hY
 have HS := Aside0.mk hs
 have HU := Aside0.mk hU
 have HL := Aside0.mk hl
 have HLEN := Aside0.mk hlen
 have HDEP := Aside0.mk hdep
 have HF := Aside0.mk hF
 have HJ := Aside0.mk h0
 clear hm hY hs hU hl hlen hdep hF h0
 refine callsIn_of_wp Tryd.func93 rfl trivial ?_ rfl
 simp only [Tryd.ntmps93, List.size_toArray, List.length_cons, List.length_nil, Nat.reduceAdd, Nat.reduceSub, Array.replicate_succ, Array.replicate_zero, List.push_toArray, List.append_toArray, List.nil_append, List.cons_append]
 gi_wp2
 have hgr : Gr W (((W.alloc (boxF mp)).alloc (dotC d)).alloc (TODOc (.slice none 0 0))) := ((Gr.alloc _ _).trans (Gr.alloc _ _)).trans (Gr.alloc _ _)
 have HF1 := Aside0.mk (HF.out.below hgr.below)
 have HBF : Aside0 ((((W.alloc (boxF mp)).alloc (dotC d)).alloc (TODOc (.slice none 0 0))).heap[W.heap.size]? = some (boxF mp)) := ⟨blk_alloc (blk_alloc (blk_new _ _) _) _⟩
 have HBT : Aside0 ((((W.alloc (boxF mp)).alloc (dotC d)).alloc (TODOc (.slice none 0 0))).heap[W.heap.size + 1 + 1]? = some (TODOc (.slice none 0 0))) := ⟨by have := blk_new ((W.alloc (boxF mp)).alloc (dotC d)) (TODOc (.slice none 0 0)); rwa [World.size_alloc, World.size_alloc] at this⟩
 have HSZ : Aside0 (W.heap.size + 3 = (((W.alloc (boxF mp)).alloc (dotC d)).alloc (TODOc (.slice none 0 0))).heap.size) := ⟨by rw [World.size_alloc, World.size_alloc, World.size_alloc]⟩
 have HMV : Aside0 (ListRange.Mv ownT W.heap.size W (((W.alloc (boxF mp)).alloc (dotC d)).alloc (TODOc (.slice none 0 0)))) := ⟨ListRange.Mv.below hgr.below⟩
 clear hgr HF
 generalize ((W.alloc (boxF mp)).alloc (dotC d)).alloc (TODOc (.slice none 0 0)) = W1 at *
 obtain ⟨b0, Hb0⟩ : ∃ b0, Aside0 (W.heap.size = b0) := ⟨_, ⟨rfl⟩⟩
 obtain ⟨T, HT⟩ : ∃ T, Aside0 (W.heap.size + 1 + 1 = T) := ⟨_, ⟨rfl⟩⟩
 obtain ⟨Dd, HD⟩ : ∃ Dd, Aside0 (W.heap.size + 1 = Dd) := ⟨_, ⟨rfl⟩⟩
 obtain ⟨F, HFe⟩ : ∃ F, Aside0 (W.heap.size = F) := ⟨_, ⟨rfl⟩⟩
 rw [HT.out] at HBT
 rw [HFe.out] at HBF
 rw [show (Value.pointer (some { block := W.heap.size + 1 + 1, off := 0 })) = .pointer (some ⟨T, 0, none⟩) by rw [HT.out], show (Value.pointer (some { block := W.heap.size + 1, off := 0 })) = .pointer (some ⟨Dd, 0, none⟩) by rw [HD.out], show (Value.pointer (some { block := W.heap.size, off := 0 })) = .pointer (some ⟨F, 0, none⟩) by rw [HFe.out]]
 have HJ1 := Aside0.mk (HM.out 0 W W1 HMV.out HJ.out)
 have hlow : b0 ≤ T ∧ b0 ≤ W1.heap.size := by have h1 := HSZ.out; have h2 := Hb0.out; have h3 := HT.out; omega
 have HLOW := Aside0.mk hlow
 refine ⟨trivial, CallsIn.mono (callsIn_wide.2 (push_call fb b0 mp F T l d dep [] (.slice none 0 0) W1 HF1.out.fams HBF.out HBT.out (Todo.nil _ _) hlow.2 HL.out (by rw [List.length_nil]; have h1 := stepOf_kids_le l d; have h2 := HL.out; omega))) ?_⟩
 rintro e W2 ⟨⟨r, rfl⟩, u, hT2, hu2, hro, htc⟩
 have HSTART : Aside0 (BlwF fb n₀ E J mp F T b0 l dep d 0 ((kids l d).map fun y => (dep, y)).reverse u W2) := ⟨by
  have hR : ∀ g, (Value.slice none 0 0).ownBlock = some g → b0 ≤ g ∧ ∃ cur, W1.heap[g]? = some (.cells cur 137 (0, 0)) := fun g hg => by cases hg
  exact ⟨Stk.start HS.out HU.out dep, hT2, by simpa using hu2, ⟨hlow.1, Nat.le_trans hlow.2 htc.size⟩, BlwF.fams HF1.out HBT.out hR htc, push_far HBT.out hR htc HBF.out ⟨by decide, by decide⟩, HM.out 0 W1 W2 (BlwF.mv (Nat.le_of_eq Hb0.out) hlow.1 HBT.out hR htc) HJ1.out⟩⟩
 clear hT2 hu2 hro htc hlow HF1 HBF HBT HMV HJ1
 gi_wp2
 gi_loopg [] (belowOf l dep d).length (fun gk wr => ∃ (k : Nat) (S : List (Nat × Node)) (u : Value), gk + k = (belowOf l dep d).length ∧ Aside0 (BlwF fb n₀ E J mp F T b0 l dep d k S u wr))
 case atStart => exact ⟨0, _, u, rfl, HSTART⟩
 case round =>
  obtain ⟨k, S, u', hk, HB⟩ := hrel
  clear HSTART
  rcases List.eq_nil_or_concat S with rfl | ⟨S', p, rfl⟩
  ·
   obtain ⟨A', c', rfl⟩ := HB.out.row.slice
   have cT : wr.cell? ⟨T, 0, none⟩ = _ := (blk_cell HB.out.todoC 0).trans rfl
   have HEND : Aside0 (J (belowOf l dep d).length wr) := ⟨by have h1 := HB.out.stk.empty; have h2 := HB.out.j; rwa [show k = (belowOf l dep d).length by omega] at h2⟩
   gi_wp2
   go_end0
   exact ⟨⟨_, rfl⟩, .inl HEND.out⟩
  ·
   rw [List.concat_eq_append] at HB
   obtain ⟨g, c, rfl, hg, ⟨cur, hcur⟩, hcells, htd⟩ := HB.out.row.last
   obtain ⟨hx, hst⟩ := HB.out.stk.step HS.out
   obtain ⟨m, Hm⟩ : ∃ m, Aside0 (S'.length = m) := ⟨_, ⟨rfl⟩⟩
   rw [Hm.out] at hcells htd HB
   have cT : wr.cell? ⟨T, 0, none⟩ = _ := (blk_cell HB.out.todoC 0).trans rfl
   have hm6 : m ≤ 1000000 := by have h1 := hst.le; have h2 := HLEN.out; have h3 := Hm.out; rw [List.length_append] at h1; omega
   have hwl : wrap64 (((m + 1 : Nat) : Int) - 1) = (m : Int) := by unfold wrap64; omega
   have hgt : decide (((m + 1 : Nat) : Int) > 0) = true := decide_eq_true (by omega)
   have p0 : wr.cell? ⟨g, m * 7, none⟩ = some (.int .i64 p.2.f0.f0) := hcells 0 _ rfl
   have p1 : wr.cell? ⟨g, m * 7 + 1, none⟩ = some (.int .i64 p.2.f0.f1) := hcells 1 _ rfl
   have p2 : wr.cell? ⟨g, m * 7 + 2, none⟩ = some (.int .i64 p.2.f1.f0) := hcells 2 _ rfl
   have p3 : wr.cell? ⟨g, m * 7 + 3, none⟩ = some (.int .i64 p.2.f1.f1) := hcells 3 _ rfl
   have p4 : wr.cell? ⟨g, m * 7 + 4, none⟩ = some (.int .i64 p.2.f2) := hcells 4 _ rfl
   have p5 : wr.cell? ⟨g, m * 7 + 5, none⟩ = some (.int .i32 p.2.f3) := hcells 5 _ rfl
   have p6 : wr.cell? ⟨g, m * 7 + 6, none⟩ = some (.int .i64 (p.1 : Int)) := hcells 6 _ rfl
   have HX := Aside0.mk hx
   have HST := Aside0.mk hst
   have HTD := Aside0.mk htd
   have HCUR := Aside0.mk hcur
   have HG := Aside0.mk hg
   clear hx hst htd hcells hcur hg
   have hT1 : (wr.alloc (boxS p)).heap[T]? = some (TODOc (.slice (some ⟨g, 0, none⟩) (m + 1) c)) := blk_alloc HB.out.todoC _
   have cT1 : (wr.alloc (boxS p)).cell? ⟨T, 0, none⟩ = _ := (blk_cell hT1 0).trans rfl
   have fT1 := blk_frozen hT1 0
   have hmc : m ≤ c := HTD.out.cap.1
   have hmx : c ≤ 9223372036854775807 := HTD.out.cap.2
   obtain ⟨Bx, HBx⟩ : ∃ Bx, Aside0 (wr.heap.size = Bx) := ⟨_, ⟨rfl⟩⟩
   have hBT : Bx ≠ T := fun e => by have := blk_lt HB.out.todoC; have := HBx.out; omega
   have hX3 : ((wr.alloc (boxS p)).setCell ⟨T, 0, none⟩ (.slice (some ⟨g, 0, none⟩) m c)).heap[Bx]? = some (boxS p) := by rw [Below.heap_setCell _ _ _ Bx hBT, ← HBx.out]; exact blk_new _ _
   have q0 : ((wr.alloc (boxS p)).setCell ⟨T, 0, none⟩ (.slice (some ⟨g, 0, none⟩) m c)).cell? ⟨Bx, 0, none⟩ = _ := (blk_cell hX3 0).trans rfl
   have q1 : ((wr.alloc (boxS p)).setCell ⟨T, 0, none⟩ (.slice (some ⟨g, 0, none⟩) m c)).cell? ⟨Bx, 1, none⟩ = _ := (blk_cell hX3 1).trans rfl
   have q2 : ((wr.alloc (boxS p)).setCell ⟨T, 0, none⟩ (.slice (some ⟨g, 0, none⟩) m c)).cell? ⟨Bx, 2, none⟩ = _ := (blk_cell hX3 2).trans rfl
   have q3 : ((wr.alloc (boxS p)).setCell ⟨T, 0, none⟩ (.slice (some ⟨g, 0, none⟩) m c)).cell? ⟨Bx, 3, none⟩ = _ := (blk_cell hX3 3).trans rfl
   have q4 : ((wr.alloc (boxS p)).setCell ⟨T, 0, none⟩ (.slice (some ⟨g, 0, none⟩) m c)).cell? ⟨Bx, 4, none⟩ = _ := (blk_cell hX3 4).trans rfl
   have q5 : ((wr.alloc (boxS p)).setCell ⟨T, 0, none⟩ (.slice (some ⟨g, 0, none⟩) m c)).cell? ⟨Bx, 5, none⟩ = _ := (blk_cell hX3 5).trans rfl
   have q6 : ((wr.alloc (boxS p)).setCell ⟨T, 0, none⟩ (.slice (some ⟨g, 0, none⟩) m c)).cell? ⟨Bx, 6, none⟩ = _ := (blk_cell hX3 6).trans rfl
   rw [← HBx.out] at q0 q1 q2 q3 q4 q5 q6
   have HX3 := Aside0.mk hX3
   have HMV3 : Aside0 (ListRange.Mv ownT b0 wr ((wr.alloc (boxS p)).setCell ⟨T, 0, none⟩ (.slice (some ⟨g, 0, none⟩) m c))) := ⟨by
    refine (ListRange.Mv.below (Gr.alloc wr (boxS p)).below).trans (mv_tch (X := fun i => i = T) ⟨rfl, rfl, rfl, by rw [World.size_setCell]; exact Nat.le_refl _, fun i hi hne => Below.heap_setCell _ _ _ i hne⟩ fun i hi e => ?_)
    subst e
    exact ⟨HB.out.low.1, _, _, hT1, .inr (.inr rfl)⟩⟩
   have HT3 : Aside0 (((wr.alloc (boxS p)).setCell ⟨T, 0, none⟩ (.slice (some ⟨g, 0, none⟩) m c)).heap[T]? = some (TODOc (.slice (some ⟨g, 0, none⟩) m c))) := ⟨blk_set hT1 0 _⟩
   have HR3 : Aside0 (Todo ((wr.alloc (boxS p)).setCell ⟨T, 0, none⟩ (.slice (some ⟨g, 0, none⟩) m c)) b0 (.slice (some ⟨g, 0, none⟩) m c) S') := ⟨(HTD.out.below (Gr.alloc wr (boxS p)).below).keep fun q hq => Below.heap_setCell _ _ _ q (fun e => by
    cases hq
    have h1 := blk_alloc HCUR.out (boxS p)
    have e' : g = T := e
    rw [e', hT1] at h1
    exact absurd (Obj.cells.inj (Option.some.inj h1)).2.1 (by decide))⟩
   have HF3 : Aside0 (((wr.alloc (boxS p)).setCell ⟨T, 0, none⟩ (.slice (some ⟨g, 0, none⟩) m c)).heap[F]? = some (boxF mp)) := ⟨by
    rw [Below.heap_setCell _ _ _ F (fun e => by
     have h1 := blk_alloc HB.out.box (boxS p)
     have e' : F = T := e
     rw [e', hT1] at h1
     exact absurd (Obj.cells.inj (Option.some.inj h1)).2.1 (by decide))]
    exact blk_alloc HB.out.box _⟩
   have HFM3 : Aside0 (FamsIn fb n₀ E ((wr.alloc (boxS p)).setCell ⟨T, 0, none⟩ (.slice (some ⟨g, 0, none⟩) m c)) mp l) := ⟨(HB.out.fam.below (Gr.alloc wr (boxS p)).below).tch (X := fun i => i = T) ⟨rfl, rfl, rfl, by rw [World.size_setCell]; exact Nat.le_refl _, fun i hi hne => Below.heap_setCell _ _ _ i hne⟩ fun i cc t e hc => by
    subst e
    rw [hT1] at hc; cases hc; exact .inr (.inr rfl)⟩
   have HJ3 := Aside0.mk (HM.out k _ _ (HMV3.out.mono (Nat.le_of_eq Hb0.out)) HB.out.j)
   have HLO := Aside0.mk HB.out.low
   obtain ⟨fn, tmps, assign, body, hy, hR⟩ := HY.out k p _ HX.out HJ3.out
   have HRR := Aside0.mk hR
   have hkl : k < (belowOf l dep d).length := (List.getElem?_eq_some_iff.1 HX.out).1
   have HP1 : Aside0 (p.1 ≤ 2000000) := ⟨by
    obtain ⟨V, hV, hp⟩ := HB.out.stk.way p (by simp)
    have h1 := hV.le HS.out
    have h2 := HL.out
    have h3 := HDEP.out
    simp only [List.length_cons] at h1
    omega⟩
   clear hT1 hBT hR
   gi_wp2
   refine HRR.out.mono ?_
   clear q0 q1 q2 q3 q4 q5 q6 cT1 fT1 p0 p1 p2 p3 p4 p5 p6 cT
   rintro e V (⟨rfl, hJ4, hK4⟩ | ⟨rfl, hJx4⟩)
   ·
    have hX4 := hK4.own _ _ _ HX3.out (.inr (.inl rfl))
    have hT4 := hK4.own _ _ _ HT3.out (.inr (.inr rfl))
    have hF4 := hK4.own _ _ _ HF3.out (.inl rfl)
    have hR4 : Todo V b0 (.slice (some ⟨g, 0, none⟩) m c) S' := HR3.out.keep fun q hq => by
     obtain ⟨_, cur, hc⟩ := HR3.out.block hq
     exact (hK4.own _ _ _ hc (.inr (.inl rfl))).trans hc.symm
    have hM4 := HFM3.out.kp hK4.kp
    rw [← HBx.out] at hX4
    have q0 : V.cell? ⟨wr.heap.size, 0, none⟩ = _ := (blk_cell hX4 0).trans rfl
    have q1 : V.cell? ⟨wr.heap.size, 1, none⟩ = _ := (blk_cell hX4 1).trans rfl
    have q6 : V.cell? ⟨wr.heap.size, 6, none⟩ = _ := (blk_cell hX4 6).trans rfl
    have hp1 := HP1.out
    have hwd : wrap64 ((p.1 : Int) + 1) = ((p.1 + 1 : Nat) : Int) := by unfold wrap64; omega
    have HT4 := Aside0.mk hT4
    have HF4 := Aside0.mk hF4
    have HR4 := Aside0.mk hR4
    have HM4 := Aside0.mk hM4
    have HJ4 := Aside0.mk hJ4
    have HLV : Aside0 (b0 ≤ V.heap.size) := ⟨Nat.le_trans (Nat.le_trans HLO.out.2 HMV3.out.size) hK4.kp.1⟩
    clear hX4 hT4 hF4 hR4 hM4 hJ4 hK4 hp1
    gi_wp2
    rw [show ((p.1 : Int) + 1) = ((p.1 + 1 : Nat) : Int) by omega]
    refine ⟨trivial, CallsIn.mono (callsIn_wide.2 (push_call fb b0 mp F T l p.2.f0 (p.1 + 1) S' (.slice (some ⟨g, 0, none⟩) m c) V HM4.out.fams HF4.out HT4.out HR4.out HLV.out HL.out (by have h1 := HST.out.le; have h2 := HLEN.out; rw [List.length_append, List.length_reverse, List.length_map] at h1; omega))) ?_⟩
    rintro e V2 ⟨⟨r2, rfl⟩, u2, hT5, hu5, hro, htc⟩
    have HB5 : Aside0 (BlwF fb n₀ E J mp F T b0 l dep d (k + 1) (S' ++ ((kids l p.2.f0).map fun y => (p.1 + 1, y)).reverse) u2 V2) := ⟨⟨HST.out, hT5, hu5, ⟨HLO.out.1, Nat.le_trans HLV.out htc.size⟩, BlwF.fams HM4.out HT4.out (fun q hq => HR4.out.block hq) htc, push_far HT4.out (fun q hq => HR4.out.block hq) htc HF4.out ⟨by decide, by decide⟩, HM.out (k + 1) V V2 (BlwF.mv (Nat.le_of_eq Hb0.out) HLO.out.1 HT4.out (fun q hq => HR4.out.block hq) htc) HJ4.out⟩⟩
    clear hT5 hu5 hro htc
    gi_wp2
    gi_roundg (gk - 1)
    case measure => omega
    case rel => exact ⟨k + 1, _, u2, by omega, HB5⟩
   ·
    gi_wp2
    refine bodyPost_ret (results_none rfl _ _ _) rfl ?_
    exact ⟨⟨_, rfl⟩, .inr ⟨k + 1, hkl, hJx4⟩⟩
theorem yieldAt_wide {a b : Nat} {P : Program} {l : Nat} {args : Array Value} {W : World} {R : Ending → World → Prop} (h : YieldAt Fence.wide a P l args W R) : YieldAt Fence.wide b P l args W R := by
 obtain ⟨fn, tmps, assign, body, h1, h2, h3⟩ := h
 exact ⟨fn, tmps, assign, body, h1, h2, fun c cs _ => h3 c cs (room_wide _)⟩
set_option maxHeartbeats 1000000 in
set_option maxRecDepth 100000 in
theorem all_moves (fb mp Fb : Nat) (E : Nat → Prop) (l : List Node) (w : World) (hs : Store l) (hl : l.length ≤ 1000000) (hB : w.heap[Fb]? = some (boxF mp)) (hF : Fams fb w mp l)
  (hE : ∀ (i : Nat) (c : Array Value) (t : Nat), E i → w.heap[i]? = some (.cells c t (0, 0)) → t = 22 ∨ t = 58 ∨ t = 3) :
  ListRange.Moves Fence.wide 9 Tryd.prog 92 #[.pointer (some ⟨Fb, 0, none⟩)] (fun x : Nat × Node => #[.int .i64 (x.1 : Int), vNode x.2]) (KpT w.heap.size E) ownT (ordOf l) w := by
 have HFI : Aside0 (FamsIn fb w.heap.size E w mp l) := ⟨FamsIn.of hF (Nat.le_refl _) fun i c t he hc => by rcases hE i c t he hc with rfl | rfl | rfl <;> decide⟩
 have HS := Aside0.mk hs
 have HL := Aside0.mk hl
 have HB := Aside0.mk hB
 clear hs hl hB hF hE
 intro lp J Jx W hWW hJ hJx hY h0
 have HJ := Aside0.mk hJ
 have HY := Aside0.mk hY
 have H0 := Aside0.mk h0
 have HW := Aside0.mk hWW
 have hb := blk_keep HB.out hWW
 have cF : W.cell? ⟨Fb, 0, none⟩ = _ := (blk_cell hb 0).trans rfl
 have HLE : Aside0 ((belowOf l 0 ⟨0, 0⟩).length ≤ 1000000) := ⟨Nat.le_trans (ord_le HS.out) HL.out⟩
 clear hJ hJx hY h0 hWW hb
 refine callsIn_of_wp Tryd.func92 rfl trivial ?_ rfl
 simp only [Tryd.ntmps92, List.size_toArray, List.length_cons, List.length_nil, Nat.reduceAdd, Nat.reduceSub, Array.replicate_succ, Array.replicate_zero, List.push_toArray, List.append_toArray, List.nil_append, List.cons_append]
 gi_wp2
 refine ⟨trivial, CallsIn.mono (below_in 8 lp fb w.heap.size mp E l ⟨0, 0⟩ 0 [] (by decide) HS.out Path.root HL.out HLE.out (by decide) J Jx W HJ.out (fun k x V hx hj => yieldAt_wide (HY.out k x V hx hj)) (HFI.out.below HW.out) H0.out) ?_⟩
 rintro e V ⟨⟨r, rfl⟩, h⟩
 gi_wp2
 go_end0
 exact ⟨⟨_, rfl⟩, h⟩
set_option maxHeartbeats 1000000 in
set_option maxRecDepth 100000 in
theorem all_fn (A0 : Option Addr) (n c0 : Nat) (l0 : List Node) (w : World) (hn : l0.length = n) (hr0 : Kd.C k37 w A0 n l0) (hc0 : n ≤ c0) (hl : l0.length ≤ 1000000) :
  Calls Tryd.prog 86 #[.slice A0 n c0] w fun e w' => ∃ Fb mp, e = .returned (.func (.func 92) #[] #[.pointer (some ⟨Fb, 0, none⟩)]) ∧ w'.heap[Fb]? = some (boxF mp) ∧ Fams w.heap.size w' mp (if storeOk l0 then l0 else []) ∧ Below w.heap.size w w' := by
 obtain ⟨b, Hb⟩ : ∃ b, Aside0 (storeOk l0 = b) := ⟨_, ⟨rfl⟩⟩
 have hval := store_Valid.calls A0 c0 l0 b w (by rw [hn]; exact hr0) (by rw [hn]; exact hc0) (by unfold store_Valid.f; rw [if_pos hl, Hb.out])
 rw [hn] at hval
 have HV := Aside0.mk hval
 have HR := Aside0.mk hr0
 have HC := Aside0.mk hc0
 have HL := Aside0.mk hl
 have Hn := Aside0.mk hn
 rw [Hb.out]
 clear hval hr0 hc0 hl hn
 go_enter Tryd.func86, Tryd.ntmps86
 go_wp2_with fail
 refine HV.out.mono ?_
 rintro e w1 ⟨rfl, hb⟩
 have HB := Aside0.mk hb
 clear hb
 cases b with
 | true =>
  have HM := made_call A0 c0 l0 w1 (by rw [Hn.out]; exact Kd.C_below HR.out HB.out) (by rw [Hn.out]; exact HC.out) HL.out (store_of Hb.out)
  rw [Hn.out] at HM
  have HM := Aside0.mk HM
  go_wp2_with fail
  refine HM.out.mono ?_
  rintro e w2 ⟨mp, rfl, hf, hb2⟩
  have HF := Aside0.mk (hf.lower HB.out.size)
  have HB2 := Aside0.mk (below_more HB.out hb2)
  clear hf hb2
  go_wp2
  go_ret
  exact ⟨_, rfl, mp, blk_new _ _, HF.out.below (Gr.alloc _ _).below, below_alloc HB2.out _⟩
 | false =>
  have HM := Aside0.mk (made_call none 0 [] w1 ⟨rfl, by simp, fun h => absurd h (by simp)⟩ (Nat.le_refl _) (by simp) ⟨fun x hx => (by cases hx), List.Pairwise.nil⟩)
  go_wp2_with fail
  refine HM.out.mono ?_
  rintro e w2 ⟨mp, rfl, hf, hb2⟩
  have HF := Aside0.mk (hf.lower HB.out.size)
  have HB2 := Aside0.mk (below_more HB.out hb2)
  clear hf hb2
  go_wp2
  go_ret
  exact ⟨_, rfl, mp, blk_new _ _, HF.out.below (Gr.alloc _ _).below, below_alloc HB2.out _⟩
end Go.Proofs.YtjlpaagnajmogaaDoor.PWalk
end
section
namespace Go.AnyOrder
end Go.AnyOrder
end
section
namespace Go.Proofs.YtjlpaagnajmogaaDoor.PWalk
open Go.RowKit Go.Proofs.YtjlpaagnajmogaaDoorW.PrintWords Go.Proofs.YtjlpaagnajmogaaDoorW.PrintLast Go.Proofs.YtjlpaagnajmogaaDoorW.PrintMore
set_option linter.unusedVariables false
set_option linter.unusedSimpArgs false
open Go.Shelf
attribute [local go_sem] Oper.semAt_some
def dotCells (d : Dot) : List Value := [.int .i64 d.f0, .int .i64 d.f1]
def dcellsOf (l : List Dot) : List Value := l.flatMap dotCells
theorem dcellsOf_length (l : List Dot) : (dcellsOf l).length = l.length * 2 := by
 induction l with
 | nil => rfl
 | cons x l ih => rw [dcellsOf, List.flatMap_cons, List.length_append, ← dcellsOf, ih]; simp [dotCells]; omega
theorem dcellsOf_drop_take (l : List Dot) (j : Nat) (x : Dot) (h : l[j]? = some x) : ((dcellsOf l).drop (j * 2)).take 2 = dotCells x := by
 induction l generalizing j with
 | nil => simp at h
 | cons y l ih =>
  cases j with
  | zero => simp at h; subst h; simp [dcellsOf, dotCells]
  | succ j =>
   simp at h
   rw [show (j + 1) * 2 = 2 + j * 2 from by omega, dcellsOf, List.flatMap_cons, ← dcellsOf, ← List.drop_drop, List.drop_left' (by simp [dotCells])]
   exact ih j h
theorem dreps_cells {R : Dot → List Value → Prop} (l : List Dot) (hR : ∀ x, R x (dotCells x)) : Reps R 2 l (dcellsOf l) :=
 ⟨dcellsOf_length l, fun j p hj => by rw [dcellsOf_drop_take l j p hj]; exact hR p⟩
theorem dcells_of_reps {R : Dot → List Value → Prop} (l : List Dot) (cs : List Value) (h : Reps R 2 l cs) (hR : ∀ x c, R x c → c = dotCells x) : cs = dcellsOf l := by
 induction l generalizing cs with
 | nil => have := h.1; simp at this; subst this; rfl
 | cons x l ih =>
  obtain ⟨h1, h2⟩ := h
  have h0 := hR _ _ (h2 0 x rfl)
  simp only [Nat.zero_mul, List.drop_zero] at h0
  have ht : Reps R 2 l (cs.drop 2) := ⟨by rw [List.length_drop, h1]; simp; omega, fun j p hj => by
   have := h2 (j + 1) p (by simpa using hj)
   rw [List.drop_drop, show 2 + j * 2 = (j + 1) * 2 from by omega]; exact this⟩
  rw [dcellsOf, List.flatMap_cons, ← dcellsOf, ← ih _ ht, ← h0, List.take_append_drop]
abbrev RD (W : World) (base : Nat) (u : Value) (xs : List Dot) : Prop := Kd.R k35 35 W base (fun _ => True) u xs
theorem RD_of_cells {w : World} {base : Nat} {v : Value} {l : List Dot} (h : w.ownsRow base 35 2 v l.length (dcellsOf l)) : RD w base v l :=
 ⟨fun _ _ => trivial, dcellsOf l, h, dreps_cells l fun x => k35_mkM _ _ _ x⟩
theorem dcells_of_R {w : World} {base : Nat} {ok : Nat → Prop} {v : Value} {l : List Dot} (h : Kd.R k35 35 w base ok v l) : w.ownsRow base 35 2 v l.length (dcellsOf l) := by
 obtain ⟨_, inner, ho, hr⟩ := h
 rw [← dcells_of_reps l inner hr fun x c hx => k35_openM hx]
 exact ho
theorem RD.slice {W : World} {base : Nat} {u : Value} {xs : List Dot} (h : RD W base u xs) : ∃ A c, u = .slice A xs.length c := ownsRow_slice (dcells_of_R h)
theorem RN.slice {W : World} {base : Nat} {u : Value} {xs : List Node} (h : RN W base u xs) : ∃ A c, u = .slice A xs.length c := ownsRow_slice (cells_of_R h)
theorem info_get {P : Program} {t : TypeId} {z : Option Value} {s b : Nat} (h : (P.info? t).map (fun i => (i.zero, i.size, i.bytes)) = some (z, s, b)) : ∃ i, P.info? t = some i ∧ i.zero = z ∧ i.size = s ∧ i.bytes = b := by
 rcases hi : P.info? t with _ | i
 ·
  rw [hi] at h; cases h
 ·
  rw [hi] at h
  simp only [Option.map_some, Option.some.injEq, Prod.mk.injEq] at h
  exact ⟨i, rfl, h⟩
theorem run_append_node (base : Nat) (ty : TypeId) (u : Value) (xs : List Node) (x : Node) (g c : Nat) (w : World) (hu : RN w base u xs) (hg : w.heap[g]? = some (boxN x)) (hb : base ≤ w.heap.size) (hl : xs.length + 1 ≤ 1000001) :
  ∃ u' w', (Builtin.append_ #[22, 22] ty #[u, .slice (some ⟨g, 0, none⟩) 1 c]).run Tryd.prog w = .ok u' w' ∧ RN w' base u' (xs ++ [x]) ∧ w.grownBy w' u.ownBlock ∧ (u'.ownBlock = u.ownBlock ∨ u'.ownBlock = some w.heap.size) := by
 obtain ⟨i, hi, hz1, hz2, hz3⟩ := info_get infoN
 obtain ⟨v', w', h1, h2, h3, _, h4⟩ := run_append_own_at (P := Tryd.prog) w base 22 ty 37 i _ 6 48 Tryd.underlying22 hi hz1 hz2 hz3 rfl (by decide) u xs.length (cellsOf xs) (cells_of_R hu) ⟨g, 0, none⟩ 1 c (nodeCells x) rfl
  (fun j v hv => by rw [add_lit, blk_cell hg, Nat.zero_add, List.getElem?_toArray]; exact hv) (fun v hv => one_cells [x] v (by simpa [cellsOf] using hv)) (by simp only [maxLen]; omega) (by omega) hb
 refine ⟨v', w', h1, R_of_cells ?_ (fun _ _ => trivial), h3, h4⟩
 rw [cellsOf_append, List.length_append, show cellsOf [x] = nodeCells x by simp [cellsOf]]
 exact h2
def nds (L : List (Nat × Node)) : List Node := L.map (fun p => p.2)
abbrev outN (u : Value) : Obj := .cells #[u] 22 (0, 0)
theorem far_setCell {W : World} {O : Nat} {i j : Nat} {v : Value} (h : j ≠ O) : (W.setCell ⟨O, i, none⟩ v).heap[j]? = W.heap[j]? := Below.heap_setCell W _ _ j h
/-- The nodes that come, put into one row. -/
structure CollN (w : World) (b O : Nat) (xs : List Node) (W : World) : Prop where
 out : ∃ u, W.heap[O]? = some (outN u) ∧ RN W b u xs
 below : Below w.heap.size w W
theorem CollN.mv {w : World} {b c O : Nat} {xs : List Node} {W V : World} (h : CollN w b O xs W) (hm : ListRange.Mv ownT c W V) (hc : w.heap.size ≤ c) : CollN w b O xs V := by
 obtain ⟨⟨u, h1, h2⟩, h3⟩ := h
 exact ⟨⟨u, hm.far h1 (by decide), h2.keep fun g hg => by
  obtain ⟨_, cur, hcur⟩ := h2.block hg
  exact (hm.far hcur (by decide)).trans hcur.symm⟩, hm.on h3 hc⟩
theorem CollN.walk {w : World} {b O : Nat} {xs : List Node} {W V : World} (h : CollN w b O xs W) {row : Option Nat} (hg : W.grownBy V row) (hr : ∀ r, row = some r → w.heap.size ≤ r ∧ ∃ o : Obj, W.heap[r]? = some o ∧ o.isCells = false) : CollN w b O xs V := by
 obtain ⟨⟨u, h1, h2⟩, h3⟩ := h
 have hnc : ∀ q cells t, W.heap[q]? = some (Obj.cells cells t (0, 0)) → V.heap[q]? = some (Obj.cells cells t (0, 0)) := fun q cells t hq => (hg.block q (blk_lt hq) (fun e => by obtain ⟨_, o, ho, hc⟩ := hr q e.symm; rw [hq] at ho; cases ho; cases hc)).trans hq
 exact ⟨⟨u, hnc O _ _ h1, h2.keep fun g hgg => by obtain ⟨_, cur, hcur⟩ := h2.block hgg; exact (hnc _ _ _ hcur).trans hcur.symm⟩, h3.grown hg h3.size (fun k e => (hr k e).1)⟩
theorem CollN.more {w : World} {b O : Nat} {xs : List Node} {W V : World} (h : CollN w b O xs W) (hb : Below W.heap.size W V) : CollN w b O xs V := by
 obtain ⟨⟨u, h1, h2⟩, h3⟩ := h
 exact ⟨⟨u, blk_keep h1 hb, h2.below' hb⟩, below_more h3 hb⟩
/-- The end of a round: the box is stored. -/
theorem CollN.put {w : World} {n₀ O : Nat} {xs ys : List Node} {W1 V V2 : World} {u u2 : Value} (hn : w.heap.size ≤ n₀) (hOl : w.heap.size ≤ O) (h1 : W1.heap[O]? = some (outN u)) (h2 : RN W1 n₀ u xs) (h3 : Below w.heap.size w W1)
  (hV : Gr W1 V) (hg : V.grownBy V2 u.ownBlock) (hr : RN V2 n₀ u2 ys) (hat : u2.ownBlock = u.ownBlock ∨ u2.ownBlock = some V.heap.size) (hnW : n₀ ≤ W1.heap.size) :
  KeepsFrom n₀ W1 (V2.setCell ⟨O, 0, none⟩ u2) ∧ KpT n₀ (fun i => i = O) W1 (V2.setCell ⟨O, 0, none⟩ u2) ∧ CollN w n₀ O ys (V2.setCell ⟨O, 0, none⟩ u2) := by
 have hOne : some O ≠ u.ownBlock := fun e => by
  obtain ⟨_, cur, hc⟩ := h2.block e.symm
  rw [h1] at hc
  exact absurd (Obj.cells.inj (Option.some.inj hc)).2.1 (by decide)
 have hO2 : V2.heap[O]? = some (outN u) := (hg.block O (Nat.lt_of_lt_of_le (blk_lt h1) hV.below.size) hOne).trans (hV.blk h1)
 have hsz : W1.heap.size ≤ V2.heap.size := Nat.le_trans hV.below.size hg.size
 have hkeep : ∀ q, q < W1.heap.size → q ≠ O → u.ownBlock ≠ some q → (V2.setCell ⟨O, 0, none⟩ u2).heap[q]? = W1.heap[q]? := fun q hq h4 h5 => by
  rw [far_setCell h4, hg.block q (Nat.lt_of_lt_of_le hq hV.below.size) (fun e => h5 e.symm)]
  exact hV.below.block q hq
 have hnr : ∀ q o, W1.heap[q]? = some o → (∀ c, o ≠ .cells c 37 (0, 0)) → u.ownBlock ≠ some q := fun q o hq ho e => by
  obtain ⟨_, cur, hc⟩ := h2.block e
  rw [hq] at hc
  exact ho _ (Option.some.inj hc)
 have hno : ∀ q o, W1.heap[q]? = some o → (∀ c, o ≠ .cells c 22 (0, 0)) → q ≠ O := fun q o hq ho e => by
  subst e
  rw [h1] at hq
  exact ho _ (Option.some.inj hq).symm
 refine ⟨⟨by rw [World.size_setCell]; exact hsz, fun q o hB hq hoc => (hkeep q (blk_lt hq) (hno q o hq fun c e => by subst e; cases hoc) (hnr q o hq fun c e => by subst e; cases hoc)).trans hq⟩,
  ⟨⟨by rw [World.size_setCell]; exact hsz, fun q hq hE => hkeep q (Nat.lt_of_lt_of_le hq hnW) hE (fun e => by have := (h2.block e).1; omega)⟩, fun q c t hq ht => (hkeep q (blk_lt hq) (hno q _ hq fun c' e => by cases e; revert ht; decide) (hnr q _ hq fun c' e => by cases e; revert ht; decide)).trans hq⟩,
  ⟨u2, blk_set hO2 0 _, hr.keep fun g hgg => far_setCell fun e => ?_⟩, ?_⟩
 ·
  subst e
  obtain ⟨_, cur, hc⟩ := hr.block hgg
  rw [hO2] at hc
  exact absurd (Obj.cells.inj (Option.some.inj hc)).2.1 (by decide)
 ·
  exact below_setCell ((below_more h3 hV.below).grown hg (below_more h3 hV.below).size (fun k e => Nat.le_trans hn (h2.block e).1)) hOl 0 u2
set_option maxHeartbeats 2000000 in
set_option maxRecDepth 100000 in
theorem walk_Order.calls (A0 : Option Addr) (c0 : Nat) (ll : List Node) (r0 : List Node) (r1 : Int) (w : World) (hr0 : Kd.C k37 w A0 ll.length ll) (hc0 : ll.length ≤ c0) (h : walk_Order.f ll = some (r0, r1)) :
  Calls Tryd.prog 72 #[.slice A0 ll.length c0] w fun e w' => ∃ v0_ : Value, e = .returned (.tuple #[v0_, .int .i64 r1]) ∧ Kd.R k37 37 w' w.heap.size (fun _ => True) v0_ r0 ∧ Below w.heap.size w w' := by
 unfold walk_Order.f at h
 by_cases hl : ll.length ≤ 1000000
 rotate_left
 ·
  rw [if_neg hl] at h; cases h
 rw [if_pos hl] at h
 have HR := Aside0.mk hr0
 have HC := Aside0.mk hc0
 have HL := Aside0.mk hl
 have HH := Aside0.mk (Option.some.inj h)
 clear h hr0 hc0 hl
 obtain ⟨n, Hn⟩ : ∃ n, Aside0 (ll.length = n) := ⟨_, ⟨rfl⟩⟩
 obtain ⟨b, Hb⟩ : ∃ b, Aside0 (storeOk ll = b) := ⟨_, ⟨rfl⟩⟩
 have hval := store_Valid.calls A0 c0 ll b w HR.out HC.out (by unfold store_Valid.f; rw [if_pos HL.out, Hb.out])
 rw [Hn.out] at hval ⊢
 have HV := Aside0.mk hval
 clear hval
 refine calls_of_wp_m Tryd.func72 rfl ?_
 simp only [Tryd.ntmps72, List.size_toArray, List.length_cons, List.length_nil, Nat.reduceAdd, Nat.reduceSub, Array.replicate_succ, Array.replicate_zero, List.push_toArray, List.append_toArray, List.nil_append, List.cons_append]
 go_wp2_with fail
 refine HV.out.mono ?_
 rintro e w1 ⟨rfl, hb⟩
 have HB := Aside0.mk hb
 clear hb HV
 cases b with
 | false =>
  have hrr : r0 = [] ∧ r1 = 2 := by
   have := HH.out
   rw [if_neg (by rw [Hb.out]; simp)] at this
   exact ⟨(Prod.mk.inj this).1.symm, (Prod.mk.inj this).2.symm⟩
  obtain ⟨rfl, rfl⟩ := hrr
  go_wp2
  exact ⟨_, results_tmp2 rfl _ _ _, _, rfl, Kd.R_nil _ _ _ _ _, HB.out⟩
 | true =>
  have hrr : r0 = nds (ordOf ll) ∧ r1 = 0 := by
   have := HH.out
   rw [if_pos Hb.out] at this
   exact ⟨(Prod.mk.inj this).1.symm, (Prod.mk.inj this).2.symm⟩
  obtain ⟨rfl, rfl⟩ := hrr
  have hO := blk_new w1 (outN (.slice none 0 0))
  have HAF := Aside0.mk (all_fn A0 n c0 ll (w1.alloc (outN (.slice none 0 0))) Hn.out (by rw [← Hn.out]; exact Kd.C_below HR.out (below_alloc HB.out _)) (by rw [← Hn.out]; exact HC.out) HL.out)
  have HO := Aside0.mk hO
  clear hO
  go_wp2_with fail
  refine HAF.out.mono ?_
  rintro e w2 ⟨Fb, mp, rfl, hF, hfam, hb⟩
  rw [if_pos Hb.out] at hfam
  have HO2 := Aside0.mk (blk_keep HO.out hb)
  have HF2 := Aside0.mk hF
  have HFM := Aside0.mk hfam
  have HB2 := Aside0.mk (below_more (below_alloc HB.out _) hb)
  have HOW : Aside0 (w.heap.size ≤ w1.heap.size ∧ w1.heap.size < w2.heap.size) := ⟨HB.out.size, blk_lt HO2.out⟩
  clear hF hfam hb HO HAF HB
  obtain ⟨O, HOe⟩ : ∃ O, Aside0 (w1.heap.size = O) := ⟨_, ⟨rfl⟩⟩
  rw [HOe.out] at HO2 HOW ⊢
  go_wp2_with fail
  have HS : Aside0 (Store ll) := ⟨store_of Hb.out⟩
  refine wpIn_wide.1 (ListRange.wpIn_move (n := 10) (F := Fence.wide) rfl (by decide) (gf := 92) (lb := #[.pointer (some ⟨Fb, 0, none⟩)]) rfl trivial Tryd.call92
   (encs := fun x : Nat × Node => #[.int .i64 (x.1 : Int), vNode x.2]) (Kp := KpT w2.heap.size (fun i => i = O)) (L := ordOf ll) (w0 := w2) ownT
   (all_moves _ mp Fb (fun i => i = O) ll w2 HS.out HL.out HF2.out HFM.out (fun i c t e hc => by subst e; rw [HO2.out] at hc; cases hc; exact .inl rfl))
   (fun h k => h.trans k) (fun W l o o' hl ho hc _ => KpT.put (Nat.le_refl _) W l o o' hl ho hc) (Below.refl _ _) (fun _ => rfl)
   (fun k W => CollN w w2.heap.size O (nds ((ordOf ll).take k)) W ∧ w2.heap.size ≤ W.heap.size)
   (fun _ _ _ => False)
   (fun k W W' row hs hg hr => ⟨hs.1.walk hg (fun r e => ⟨Nat.le_trans HB2.out.size (hr r e).1, (hr r e).2⟩), Nat.le_trans hs.2 hg.size⟩) (fun _ _ _ _ _ hs _ _ => hs)
   (fun k A B hm hs => ⟨hs.1.mv hm HB2.out.size, Nat.le_trans hs.2 hm.size⟩) (fun _ _ _ _ _ hs => hs)
   ⟨⟨⟨_, HO2.out, Kd.R_nil _ _ _ _ _⟩, HB2.out⟩, Nat.le_refl _⟩
   (fun x a' W => ∃ Nb, w2.heap.size ≤ Nb ∧ W.heap[Nb]? = some (boxN x.2) ∧ a' = { tmps := #[.slice A0 n c0, undef, .slice none 0 0, .int .i64 0, .pointer (some ⟨O, 0, none⟩), undef, .pointer (some ⟨Nb, 0, none⟩), .slice A0 n c0, .bool true, .bool false, .slice A0 n c0, .func (.func 92) #[] #[.pointer (some ⟨Fb, 0, none⟩)], .int .i64 (x.1 : Int), vNode x.2, undef, undef, undef, undef, undef], defers := [] })
   (fun x a' _ W W' row hs hg hr => by
    obtain ⟨Nb, h1, h2, h3⟩ := hs
    exact ⟨Nb, h1, (hg.block Nb (blk_lt h2) (fun e => by obtain ⟨_, o, ho, hc⟩ := hr Nb e.symm; rw [h2] at ho; cases ho; cases hc)).trans h2, h3⟩)
   ?assign ?body ?done ?stop)
  case assign =>
   rintro lp k x W K hx ⟨h1, h2⟩ hK
   gi_wp2
   exact hK _ _ ((KeepsOthers.alloc _ _).from _) (KpT.below (Gr.alloc W _).below h2) ⟨h1.more (Gr.alloc W _).below, Nat.le_trans h2 (by rw [World.size_alloc]; omega)⟩ ⟨W.heap.size, h2, blk_new _ _, rfl⟩
  case body =>
   rintro lp k x a' W hx hl2 ⟨rr, hrr⟩ ⟨⟨⟨u, h1, h2⟩, h3⟩, h4⟩ ⟨Nb, hx1, hx2, rfl⟩
   have hlen : (nds ((ordOf ll).take k)).length ≤ 1000000 := by unfold nds; rw [List.length_map, List.length_take]; exact Nat.le_trans (Nat.min_le_right _ _) (Nat.le_trans (ord_le HS.out) HL.out)
   obtain ⟨u2, w3, hrun, hrd, hgr, hat⟩ := run_append_node w2.heap.size 22 u _ x.2 W.heap.size 1 (W.alloc (boxN x.2)) (h2.below' (Gr.alloc W _).below) (blk_new _ _) (Nat.le_trans h4 (by rw [World.size_alloc]; omega)) (by omega)
   have hput := CollN.put HB2.out.size (Nat.le_trans HOW.out.1 (Nat.le_refl _)) h1 h2 h3 (Gr.alloc W _) hgr hrd hat h4
   have hO3 : w3.heap[O]? = some (outN u) := (hgr.block O (Nat.lt_of_lt_of_le (blk_lt h1) (Gr.alloc W (boxN x.2)).below.size) (fun e => by
    obtain ⟨_, cur, hc⟩ := h2.block e.symm
    rw [h1] at hc
    exact absurd (Obj.cells.inj (Option.some.inj hc)).2.1 (by decide))).trans (blk_alloc h1 _)
   have HTK : Aside0 (nds ((ordOf ll).take (k + 1)) = nds ((ordOf ll).take k) ++ [x.2]) := ⟨by
    have hk := (List.getElem?_eq_some_iff.1 hx).1
    unfold nds
    rw [List.take_succ_eq_append_getElem hk, (List.getElem?_eq_some_iff.1 hx).2, List.map_append]; rfl⟩
   obtain ⟨A, c, rfl⟩ := h2.slice
   obtain ⟨A2, c2, rfl⟩ := hrd.slice
   obtain ⟨m, hm⟩ : ∃ m, (nds ((ordOf ll).take k)).length = m := ⟨_, rfl⟩
   obtain ⟨m2, hm2⟩ : ∃ m2, (nds ((ordOf ll).take k) ++ [x.2]).length = m2 := ⟨_, rfl⟩
   rw [hm] at h1 h2 hrun hgr hat hO3
   rw [hm2] at hrun hrd hat hput
   clear hm hm2
   have cO : W.cell? ⟨O, 0, none⟩ = _ := (blk_cell h1 0).trans rfl
   have n0 : W.cell? ⟨Nb, 0, none⟩ = _ := (blk_cell hx2 0).trans rfl
   have n1 : W.cell? ⟨Nb, 1, none⟩ = _ := (blk_cell hx2 1).trans rfl
   have n2 : W.cell? ⟨Nb, 2, none⟩ = _ := (blk_cell hx2 2).trans rfl
   have n3 : W.cell? ⟨Nb, 3, none⟩ = _ := (blk_cell hx2 3).trans rfl
   have n4 : W.cell? ⟨Nb, 4, none⟩ = _ := (blk_cell hx2 4).trans rfl
   have n5 : W.cell? ⟨Nb, 5, none⟩ = _ := (blk_cell hx2 5).trans rfl
   have cO3 : w3.cell? ⟨O, 0, none⟩ = _ := (blk_cell hO3 0).trans rfl
   have fO3 := blk_frozen hO3 0
   have HRUN := Aside0.mk hrun
   have HPUT := Aside0.mk hput
   have HSZ3 : Aside0 (w2.heap.size ≤ w3.heap.size) := ⟨Nat.le_trans (Nat.le_trans h4 (Gr.alloc W (boxN x.2)).below.size) hgr.size⟩
   clear h1 h2 h3 h4 hx hx1 hx2 hrun hrd hgr hat hput hO3 hlen
   obtain ⟨x0, x1⟩ := x
   dsimp only at n0 n1 n2 n3 n4 n5 ⊢
   gi_wp2_with (gi_at_builtin; refine wpListIn_append_eq rfl (.tmp 14) (.tmp 16) 22 rfl rfl rfl HRUN.out ?_)
   exact ⟨HPUT.out.1, HPUT.out.2.1, by rw [HTK.out]; exact HPUT.out.2.2, by rw [World.size_setCell]; exact HSZ3.out⟩
  case done =>
   rintro D W hD ⟨h1, h2⟩ hDK
   rw [List.take_length] at h1
   obtain ⟨⟨u, hO, hr⟩, hbl⟩ := h1
   obtain ⟨A, c, rfl⟩ := hr.slice
   obtain ⟨m, hm⟩ : ∃ m, (nds (ordOf ll)).length = m := ⟨_, rfl⟩
   rw [hm] at hO hr
   clear hm
   have cO : W.cell? ⟨O, 0, none⟩ = _ := (blk_cell hO 0).trans rfl
   have HEND : Aside0 (RN W w.heap.size (.slice A m c) (nds (ordOf ll)) ∧ Below w.heap.size w W ∧ W.heap[D]? = some (.deferred (some [])) ∧ w.heap.size ≤ D) := ⟨Kd.R_lower hr HB2.out.size, hbl, hDK, Nat.le_trans HB2.out.size hD⟩
   clear hO hr hbl hDK hD h2
   go_wp2
   refine leaves_of_marks2 (n0 := w.heap.size) [mkMark D] _ ⟨[D], rfl, by simp, fun E hE => ?_⟩ (fun W' hm => ⟨_, results_tmp2 rfl _ _ W', _, rfl, R_onlyMarks HEND.out.1 hm, below_onlyMarks HEND.out.2.1 hm⟩)
   simp only [List.mem_singleton] at hE
   subst hE
   exact ⟨HEND.out.2.2.2, HEND.out.2.2.1⟩
  case stop =>
   rintro D c k W _ _ h _
   exact h.elim
end Go.Proofs.YtjlpaagnajmogaaDoor.PWalk
end
section
namespace Go.Proofs.YtjlpaagnajmogaaDoor.PWalk
open Go.RowKit Go.Proofs.YtjlpaagnajmogaaDoorW.PrintWords Go.Proofs.YtjlpaagnajmogaaDoorW.PrintLast Go.Proofs.YtjlpaagnajmogaaDoorW.PrintMore
set_option linter.unusedVariables false
set_option linter.unusedSimpArgs false
open Go.Shelf
attribute [local go_sem] Oper.semAt_some
structure DfSt {α : Type} (q : α → Bool) (l : List α) (i j : Nat) (dk : List α) : Prop where
 len : dk.length = l.length
 lt : i < j
 le : j ≤ l.length
 low : dk.take i = (l.take j).filter q
 high : dk.drop j = l.drop j
theorem DfSt.start {α : Type} {q : α → Bool} {l : List α} {k : Nat} {x : α} (hx : l[k]? = some x) (hq : q x = false) (hn : ∀ j y, j < k → l[j]? = some y → q y = true) : DfSt q l k (k + 1) l := by
 have hk := (List.getElem?_eq_some_iff.1 hx).1
 refine ⟨rfl, Nat.lt_succ_self _, hk, ?_, rfl⟩
 rw [List.take_add_one, hx, List.filter_append]
 have : (l.take k).filter q = l.take k := by
  rw [List.filter_eq_self]
  intro y hy
  obtain ⟨j, hj⟩ := List.getElem?_of_mem hy
  rw [List.getElem?_take] at hj
  split at hj
  ·
   exact hn j y (by assumption) hj
  ·
   cases hj
 rw [this]
 simp [hq]
theorem DfSt.keep {α : Type} {q : α → Bool} {l : List α} {i j : Nat} {dk : List α} {x : α} (h : DfSt q l i j dk) (hx : l[j]? = some x) (hq : q x = true) : DfSt q l (i + 1) (j + 1) (dk.set i x) := by
 have hj := (List.getElem?_eq_some_iff.1 hx).1
 have h1 := h.lt
 have h2 := h.len
 refine ⟨by rw [List.length_set, h.len], by omega, hj, ?_, ?_⟩
 ·
  rw [List.take_add_one, List.take_set_of_le (Nat.le_refl _), List.getElem?_set_self (by omega), h.low, List.take_add_one, hx, List.filter_append]
  simp [hq]
 ·
  rw [List.drop_set_of_lt (by omega)]
  have := congrArg (List.drop 1) h.high
  rw [List.drop_drop, List.drop_drop] at this
  exact this
theorem DfSt.skip {α : Type} {q : α → Bool} {l : List α} {i j : Nat} {dk : List α} {x : α} (h : DfSt q l i j dk) (hx : l[j]? = some x) (hq : q x = false) : DfSt q l i (j + 1) dk := by
 have hj := (List.getElem?_eq_some_iff.1 hx).1
 have h1 := h.lt
 refine ⟨h.len, by omega, hj, ?_, ?_⟩
 ·
  rw [h.low, List.take_add_one, hx, List.filter_append]
  simp [hq]
 ·
  have := congrArg (List.drop 1) h.high
  rw [List.drop_drop, List.drop_drop] at this
  exact this
theorem DfSt.get {α : Type} {q : α → Bool} {l : List α} {i j : Nat} {dk : List α} (h : DfSt q l i j dk) : dk[j]? = l[j]? := by
 have := congrArg (fun z => z[0]?) h.high
 simpa using this
theorem DfSt.done {α : Type} {q : α → Bool} {l : List α} {i : Nat} {dk : List α} (h : DfSt q l i l.length dk) : dk.take i = l.filter q := by
 rw [h.low, List.take_length]
theorem cellsOf_tk (l : List Node) (i : Nat) : cellsOf (l.take i) = (cellsOf l).take (i * 6) := by
 by_cases h : i ≤ l.length
 ·
  have e : cellsOf l = cellsOf (l.take i) ++ cellsOf (l.drop i) := by rw [← cellsOf_append, List.take_append_drop]
  rw [e, List.take_left' (by rw [cellsOf_length, List.length_take]; omega)]
 ·
  rw [List.take_of_length_le (by omega), List.take_of_length_le (by rw [cellsOf_length]; omega)]
theorem cellsOf_put (l : List Node) (i : Nat) (x : Node) (h : i < l.length) : cellsOf (l.set i x) = (cellsOf l).take (i * 6) ++ nodeCells x ++ (cellsOf l).drop (i * 6 + 6) := by
 have e : cellsOf l = cellsOf (l.take i) ++ (nodeCells l[i] ++ cellsOf (l.drop (i + 1))) := by
  have h1 : cellsOf l = cellsOf (l.take i ++ l.drop i) := by rw [List.take_append_drop]
  rw [h1, cellsOf_append, List.drop_eq_getElem_cons h]
  rfl
 have hl : (cellsOf (l.take i)).length = i * 6 := by rw [cellsOf_length, List.length_take]; omega
 have hl2 : (cellsOf (l.take i) ++ nodeCells l[i]).length = i * 6 + 6 := by rw [List.length_append, hl]; rfl
 rw [List.set_eq_take_append_cons_drop, if_pos h, cellsOf_append, e, List.take_left' hl, ← List.append_assoc (cellsOf (l.take i)) (nodeCells l[i]), List.drop_left' hl2, List.append_assoc]
 rfl
theorem R_row {w : World} {base g n cap : Nat} {l : List Node} (h : Kd.R k37 37 w base (fun _ => True) (.slice (some ⟨g, 0, none⟩) n cap) l) :
  n = l.length ∧ ∃ cur, base ≤ g ∧ w.heap[g]? = some (.cells cur 37 (0, 0)) ∧ n ≤ cap ∧ cap ≤ 9223372036854775807 ∧ cur.size = cap * 6 ∧ cur.toList.take (n * 6) = cellsOf l := by
 have hn : n = l.length := (Kd.R_reads' h).1
 subst hn
 obtain ⟨hl, ho⟩ := cells_of_R h
 rcases ho with ⟨h0, _⟩ | ⟨g', cap', cur, he, hbg, hcur, hle, hmx, hsz, htk⟩
 ·
  cases h0
 ·
  cases he
  exact ⟨rfl, cur, hbg, hcur, hle, hmx, hsz, htk⟩
theorem R_of_row {w : World} {base g n cap : Nat} {l : List Node} {cur : Array Value} (hn : n = l.length) (hb : base ≤ g) (hc : w.heap[g]? = some (.cells cur 37 (0, 0))) (hle : n ≤ cap) (hmx : cap ≤ 9223372036854775807) (hsz : cur.size = cap * 6) (ht : cur.toList.take (n * 6) = cellsOf l) :
  Kd.R k37 37 w base (fun _ => True) (.slice (some ⟨g, 0, none⟩) n cap) l := by
 subst hn
 exact R_of_cells ⟨cellsOf_length _, .inr ⟨g, cap, cur, rfl, hb, hc, hle, hmx, hsz, ht⟩⟩ (fun _ _ => trivial)
theorem R_tk {w : World} {base g n cap : Nat} {l : List Node} (h : Kd.R k37 37 w base (fun _ => True) (.slice (some ⟨g, 0, none⟩) n cap) l) {i : Nat} (hi : i ≤ n) :
  Kd.R k37 37 w base (fun _ => True) (.slice (some ⟨g, 0, none⟩) i cap) (l.take i) := by
 obtain ⟨rfl, cur, hb, hc, hle, hmx, hsz, ht⟩ := R_row h
 refine R_of_row (by rw [List.length_take]; omega) hb hc (by omega) hmx hsz ?_
 rw [cellsOf_tk, ← ht, List.take_take]
 congr 1; omega
theorem take_mid {α : Type} (cur xs : List α) (i m n : Nat) (hi : i + m ≤ n) (hx : xs.length = m) (hn : i ≤ cur.length) : (cur.take i ++ xs ++ cur.drop (i + m)).take n = (cur.take n).take i ++ xs ++ (cur.take n).drop (i + m) := by
 subst hx
 rw [List.take_take, show min i n = i by omega, List.take_append, List.take_of_length_le (l := cur.take i ++ xs) (by rw [List.length_append, List.length_take]; omega), List.length_append, List.length_take, show min i cur.length = i by omega, List.drop_take]
theorem run_storeVar_at {P : Program} (w : World) (g o : Nat) (t ty : TypeId) (cur cells : Array Value) (hg : w.heap[g]? = some (.cells cur t (0, 0))) (hi : (P.info? ty).map (·.size) = some cells.size)
  (ho : o + cells.size ≤ cur.size) (h1 : ∀ v ∈ cells.toList, v.oneCell' = true) :
  (storeVar ty ⟨g, o, none⟩ (.agg cells)).run P w = .ok () (w.setRow g (cur.toList.take o ++ cells.toList ++ cur.toList.drop (o + cells.size)).toArray) := by
 have := run_storeCells_at (P := P) g o t cells.toList 0 cur w hg (by rw [Array.length_toList]; exact ho) h1
 cases hq : P.info? ty with
 | none => simp [hq] at hi
 | some i =>
  have hs : cells.size = i.size := by simp [hq] at hi; omega
  simp only [Nat.add_zero, Array.length_toList] at this
  simp [storeVar, sizeOf, typeInfo, hq, Value.cells, hs, this]
/-- A node is stored into a row. -/
theorem row_put {w : World} {base g n cap i : Nat} {l : List Node} (x : Node) (h : Kd.R k37 37 w base (fun _ => True) (.slice (some ⟨g, 0, none⟩) n cap) l) (hi : i < n) :
  ∃ w', (storeVar 37 ⟨g, i * 6, none⟩ (vNode x)).run Tryd.prog w = .ok () w' ∧ Kd.R k37 37 w' base (fun _ => True) (.slice (some ⟨g, 0, none⟩) n cap) (l.set i x) ∧ w.grownBy w' (some g) := by
 obtain ⟨rfl, cur, hb, hc, hle, hmx, hsz, ht⟩ := R_row h
 have hl := cellsOf_length l
 have hcl : cur.toList.length = cap * 6 := by rw [Array.length_toList]; exact hsz
 obtain ⟨i0, hi0, hz0, hz1, hz2⟩ := info_parts infoN
 have hst := run_storeVar_at (P := Tryd.prog) w g (i * 6) 37 37 cur (nodeCells x).toArray hc (by rw [hi0]; show some i0.size = some 6; rw [hz1]) (by show i * 6 + 6 ≤ _; omega) (by intro v hv; simp [nodeCells] at hv; rcases hv with rfl | rfl | rfl | rfl | rfl | rfl <;> rfl)
 rw [show (nodeCells x).toArray.size = 6 from rfl, List.toList_toArray] at hst
 have h6 : (nodeCells x).length = 6 := rfl
 refine ⟨_, hst, ?_, setRow_grown w g _⟩
 refine R_of_row (by rw [List.length_set]) hb (setRow_at hc _) hle hmx ?_ ?_
 rotate_left
 ·
  rw [cellsOf_put _ _ _ hi, ← ht, List.toList_toArray]
  exact take_mid _ _ _ _ _ (by omega) h6 (by omega)
 ·
  rw [List.size_toArray, List.length_append, List.length_append, List.length_take, List.length_drop, h6]
  omega
/-- The end of a row is cleared. -/
theorem row_clear {w : World} {base g n cap i : Nat} {l : List Node} (h : Kd.R k37 37 w base (fun _ => True) (.slice (some ⟨g, 0, none⟩) n cap) l) (hi : i < n) :
  ∃ w', (Builtin.clear_ #[22] 0 #[.slice (some ⟨g, i * 6, none⟩) (n - i) (cap - i)]).run Tryd.prog w = .ok (.tuple #[]) w' ∧ Kd.R k37 37 w' base (fun _ => True) (.slice (some ⟨g, 0, none⟩) i cap) (l.take i) ∧ w.grownBy w' (some g) := by
 obtain ⟨rfl, cur, hb, hc, hle, hmx, hsz, ht⟩ := R_row h
 have hl := cellsOf_length l
 have hcl : cur.toList.length = cap * 6 := by rw [Array.length_toList]; exact hsz
 have hclr := run_clear_row (P := Tryd.prog) Tryd.underlying22 Tryd.zeroValue37 (by decide) 0 g (i * 6) (l.length - i) (cap - i) cur 37 w hc (by omega) (by rw [hsz]; show i * 6 + (l.length - i) * 6 ≤ cap * 6; omega)
 have hz6 : (Value.agg #[(.int .i64 0), (.int .i64 0), (.int .i64 0), (.int .i64 0), (.int .i64 0), (.int .i32 0)]).cells.size = 6 := rfl
 have hzl : (Builtin.zeroCells (Value.agg #[(.int .i64 0), (.int .i64 0), (.int .i64 0), (.int .i64 0), (.int .i64 0), (.int .i32 0)]).cells (l.length - i)).toList.length = (l.length - i) * 6 := by rw [Array.length_toList, size_zeroCells]; rfl
 rw [hz6] at hclr
 generalize (Builtin.zeroCells (Value.agg #[(.int .i64 0), (.int .i64 0), (.int .i64 0), (.int .i64 0), (.int .i64 0), (.int .i32 0)]).cells (l.length - i)).toList = zs at hclr hzl
 refine ⟨_, hclr, ?_, setRow_grown w g _⟩
 refine R_of_row (by rw [List.length_take]; omega) hb (setRow_at hc _) (by omega) hmx ?_ ?_
 ·
  rw [List.size_toArray, List.length_append, List.length_append, List.length_take, List.length_drop, hzl]
  omega
 ·
  rw [List.toList_toArray, List.append_assoc, List.take_left' (by rw [List.length_take]; omega), cellsOf_tk, ← ht, List.take_take, show min (i * 6) (l.length * 6) = i * 6 by omega]
theorem row_six {W : World} {base g n c k : Nat} {xs : List Node} {x : Node} (h : Kd.R k37 37 W base (fun _ => True) (.slice (some ⟨g, 0, none⟩) n c) xs) (hk : xs[k]? = some x) :
  W.cell? ⟨g, k * 6, none⟩ = some (.int .i64 x.f0.f0) ∧ W.cell? ⟨g, k * 6 + 1, none⟩ = some (.int .i64 x.f0.f1) ∧ W.cell? ⟨g, k * 6 + 2, none⟩ = some (.int .i64 x.f1.f0) ∧ W.cell? ⟨g, k * 6 + 3, none⟩ = some (.int .i64 x.f1.f1) ∧ W.cell? ⟨g, k * 6 + 4, none⟩ = some (.int .i64 x.f2) ∧ W.cell? ⟨g, k * 6 + 5, none⟩ = some (.int .i32 x.f3) := by
 obtain ⟨ad, e, h0, h1, h2, h3, h4, h5⟩ := node_at (Kd.R_reads' h).2.2 (Below.refl _ W) k x hk
 cases e
 rw [show (⟨g, 0, none⟩ : Addr).add (k * 6) = ⟨g, k * 6, none⟩ by rw [add_lit, Nat.zero_add]] at h0 h1 h2 h3 h4 h5
 exact ⟨h0, h1, h2, h3, h4, h5⟩
theorem box_cells {V : World} {g : Nat} {c0 c1 c2 c3 c4 c5 : Value} (h : V.heap[g]? = some (.cells #[c0, c1, c2, c3, c4, c5] 37 (0, 0))) :
  V.cell? ⟨g, 0, none⟩ = some c0 ∧ V.cell? ⟨g, 1, none⟩ = some c1 ∧ V.cell? ⟨g, 2, none⟩ = some c2 ∧ V.cell? ⟨g, 3, none⟩ = some c3 ∧ V.cell? ⟨g, 4, none⟩ = some c4 ∧ V.cell? ⟨g, 5, none⟩ = some c5 :=
 ⟨(blk_cell h 0).trans rfl, (blk_cell h 1).trans rfl, (blk_cell h 2).trans rfl, (blk_cell h 3).trans rfl, (blk_cell h 4).trans rfl, (blk_cell h 5).trans rfl⟩
section
variable {ops : Array Oper} {rest : List Oper} {o : Oper} {a : Act} {Q : Exit → Act → World → Prop}
/-- The operation: a node is stored into a row. -/
theorem wpList_putNode (hgd : o.guard = none) (s x : Operand) (ho : o.op = .store 37 s x) (hd : o.dst = none) {w : World} {base g n cap i : Nat} {l : List Node} (y : Node)
  (h : Kd.R k37 37 w base (fun _ => True) (.slice (some ⟨g, 0, none⟩) n cap) l) (hi : i < n) (hs : a.eval s = .pointer (some ⟨g, i * 6, none⟩)) (hx : a.eval x = vNode y)
  (hk : ∀ w', Kd.R k37 37 w' base (fun _ => True) (.slice (some ⟨g, 0, none⟩) n cap) (l.set i y) → w.grownBy w' (some g) → wpList Tryd.prog ops Q rest a w') : wpList Tryd.prog ops Q (o :: rest) a w := by
 obtain ⟨w', h1, h2, h3⟩ := row_put y h hi
 refine wpList_plain hgd fun K hK => ?_
 unfold Oper.wp execOp
 simp only [ho, hs, hx, Instr.storeAt, Instr.sureAddr, Sem.run_bind, Sem.run_pure, Result.andThen_ok, h1]
 show K (a.put o.dst undef) w'
 rw [hd]
 exact hK _ _ (hk w' h2 h3)
end
theorem own_more {w V : World} {base : Nat} {v : Value} {l : List Node} (h : Kd.R k37 37 w base (fun _ => True) v l) (hb : Below w.heap.size w V) : Kd.R k37 37 V base (fun _ => True) v l := Kd.R_below h hb
theorem grown_more {w W V : World} {g : Nat} (h : w.grownBy W (some g)) (hb : Below W.heap.size W V) : w.grownBy V (some g) :=
 ⟨hb.os.trans h.os, hb.tape.trans h.tape, hb.output.trans h.output, Nat.le_trans h.size hb.size, fun k hk hne => (hb.block k (Nat.lt_of_lt_of_le hk h.size)).trans (h.block k hk hne)⟩
theorem grown_trans {w W V : World} {g : Nat} (h : w.grownBy W (some g)) (k : W.grownBy V (some g)) : w.grownBy V (some g) :=
 ⟨k.os.trans h.os, k.tape.trans h.tape, k.output.trans h.output, Nat.le_trans h.size k.size, fun q hq hne => (k.block q (Nat.lt_of_lt_of_le hq h.size) hne).trans (h.block q hq hne)⟩
theorem grown_self (w : World) (g : Nat) : w.grownBy w (some g) := ⟨rfl, rfl, rfl, Nat.le_refl _, fun _ _ _ => rfl⟩
theorem idxFrom_cases (p : Node → Bool) (l : List Node) : (idxFrom p l = -1 ∧ ∀ x ∈ l, p x = false) ∨ ∃ (k : Nat) (x : Node), l[k]? = some x ∧ idxFrom p l = (k : Int) ∧ p x = true ∧ ∀ j y, j < k → l[j]? = some y → p y = false := by
 unfold idxFrom
 cases h : l.findIdx? p with
 | none =>
  rw [List.findIdx?_eq_none_iff] at h
  exact .inl ⟨rfl, h⟩
 | some k =>
  obtain ⟨hk, h1, h2⟩ := List.findIdx?_eq_some_iff_getElem.1 h
  refine .inr ⟨k, l[k], List.getElem?_eq_getElem hk, rfl, h1, fun j y hj hy => ?_⟩
  obtain ⟨hl, rfl⟩ := List.getElem?_eq_some_iff.1 hy
  simpa using h2 j hj
set_option maxHeartbeats 1000000 in
set_option maxRecDepth 100000 in
theorem DeleteFuncNode.calls (p : Node → Bool) (fn : Nat) (base : Nat) (v : Value) (l : List Node) (w : World) (ho : Kd.R k37 37 w base (fun _ => True) v l) (hl : l.length ≤ 1000000)
  (hcall : ∀ args W, (callFunc fn args).run Tryd.prog W = .ok (.enter fn args) W)
  (hp : ∀ x W, Calls Tryd.prog fn #[vNode x] W fun e W' => e = .returned (.bool (p x)) ∧ Below W.heap.size W W') :
  Calls Tryd.prog 73 #[v, .func (.func fn) #[] #[]] w fun e w' => ∃ v0_ : Value, e = .returned v0_ ∧ Kd.R k37 37 w' base (fun _ => True) v0_ (l.filter fun x => !p x) ∧ w.grownBy w' v.ownBlock := by
 obtain ⟨A, c, rfl, hlc⟩ : ∃ A c, v = .slice A l.length c ∧ l.length ≤ c := by
  obtain ⟨A, c, rfl⟩ := RN.slice ho
  exact ⟨A, c, rfl, (Kd.R_reads' ho).2.1⟩
 have HI := Aside0.mk (IndexFuncNode.calls p fn #[] A c l w (Kd.R_reads' ho).2.2 hlc hcall (fun x W _ => hp x W))
 have HP := Aside0.mk hp
 have HO := Aside0.mk ho
 clear ho hp
 obtain ⟨n, Hn⟩ : ∃ n, Aside0 (l.length = n) := ⟨_, ⟨rfl⟩⟩
 rw [Hn.out] at HI HO hl hlc ⊢
 have hu := Tryd.underlying37
 rcases idxFrom_cases p l with ⟨hi, hall⟩ | ⟨k, x, hk, hi, hx, hlow⟩
 ·
  have HF := Aside0.mk (show (l.filter fun x => !p x) = l by rw [List.filter_eq_self]; intro y hy; rw [hall y hy]; rfl)
  rw [hi] at HI
  clear hi hall
  go_enter Tryd.func73, Tryd.ntmps73
  go_wp2_with fail
  refine HI.out.mono ?_
  rintro e W ⟨rfl, hb⟩
  go_wp2
  go_ret
  refine ⟨_, rfl, ?_, ⟨hb.os, hb.tape, hb.output, hb.size, fun q hq _ => hb.block q hq⟩⟩
  rw [HF.out]
  exact own_more HO.out hb
 ·
  have hkn : k < n := by rw [← Hn.out]; exact (List.getElem?_eq_some_iff.1 hk).1
  obtain ⟨g, rfl⟩ : ∃ g, A = some ⟨g, 0, none⟩ := by
   obtain ⟨g, cap, h1, _⟩ := Kd.R_form HO.out (by rw [Hn.out]; omega)
   cases h1
   exact ⟨g, rfl⟩
  have HS := Aside0.mk (DfSt.start (q := fun x => !p x) hk (by rw [hx]; rfl) (fun j y hj hy => by rw [hlow j y hj hy]; rfl))
  have HK := Aside0.mk hkn
  rw [hi] at HI
  clear hi hx hlow hk
  have hne : ((k : Int) == -1) = false := beq_eq_false_iff_ne.2 (by omega)
  go_enter Tryd.func73, Tryd.ntmps73
  go_wp2_with fail
  refine HI.out.mono ?_
  rintro e W ⟨rfl, hb⟩
  have HB := Aside0.mk hb
  clear hb
  go_wp2
  go_loopw [5, 6, 7] (fun i j _ wr => ∃ (a b : Nat) (dk : List Node), i = .int .i64 a ∧ j = .int .i64 b ∧ a < b ∧ b ≤ n ∧ Aside0 (DfSt (fun x => !p x) l a b dk) ∧ Aside0 (Kd.R k37 37 wr base (fun _ => True) (.slice (some ⟨g, 0, none⟩) n c) dk) ∧ Aside0 (w.grownBy wr (some g))) (fun _ j _ _ => n - (intOf j).toNat)
  case atStart => exact ⟨k, k + 1, l, rfl, by go_num, by omega, by have := HK.out; omega, HS, ⟨own_more HO.out HB.out⟩, ⟨grown_more (grown_self w g) HB.out⟩⟩
  case round =>
   obtain ⟨a, b, dk, rfl, rfl, hab, hbn, HD, HRw, HG⟩ := hrel
   by_cases hlt : b < n
   ·
    obtain ⟨y, hy⟩ : ∃ y, Aside0 (l[b]? = some y) := ⟨_, ⟨List.getElem?_eq_getElem (by rw [Hn.out]; exact hlt)⟩⟩
    obtain ⟨h0, h1, h2, h3, h4, h5⟩ := row_six HRw.out (HD.out.get.trans hy.out)
    cases hpy : p y with
    | true =>
     have HP2 := Aside0.mk hpy
     clear hpy
     go_wp2
     refine (HP.out y _).mono ?_
     rintro e V ⟨rfl, hb⟩
     rw [HP2.out]
     have HBV := Aside0.mk (below_more (below_alloc (Below.refl _ wr) _) hb)
     clear hb
     go_wp2
     go_roundw
     case rel => exact ⟨a, b + 1, dk, rfl, by go_num, by omega, by omega, ⟨HD.out.skip hy.out (by rw [HP2.out]; rfl)⟩, ⟨own_more HRw.out HBV.out⟩, ⟨grown_more HG.out HBV.out⟩⟩
     case measure => simp [intOf]; omega
    | false =>
     have HP2 := Aside0.mk hpy
     clear hpy
     go_wp2
     refine (HP.out y _).mono ?_
     rintro e V ⟨rfl, hb⟩
     rw [HP2.out]
     have HX := Aside0.mk (blk_keep (blk_new wr _) hb)
     have HBV := Aside0.mk (below_more (below_alloc (Below.refl _ wr) _) hb)
     clear hb h0 h1 h2 h3 h4 h5
     obtain ⟨h0, h1, h2, h3, h4, h5⟩ := box_cells HX.out
     have HRV := own_more HRw.out HBV.out
     have HRV := Aside0.mk HRV
     have han : a < n := by omega
     go_wp2_with (refine wpList_putNode rfl (.tmp 33) (.tmp 32) rfl rfl y HRV.out han rfl rfl ?_; intro V2 hR2 hg2)
     go_roundw
     case rel => exact ⟨a + 1, b + 1, dk.set a y, by go_num, by go_num, by omega, by omega, ⟨HD.out.keep hy.out (by rw [HP2.out]; rfl)⟩, ⟨hR2⟩, ⟨grown_trans (grown_more HG.out HBV.out) hg2⟩⟩
     case measure => simp [intOf]; omega
   ·
    obtain rfl : b = n := by omega
    obtain ⟨V, hrun, hR, hg⟩ := row_clear HRw.out hab
    have HRUN := Aside0.mk hrun
    have HR3 := Aside0.mk hR
    have HG3 := Aside0.mk (grown_trans HG.out hg)
    have hda := HD.out
    rw [← Hn.out] at hda
    have HDA := Aside0.mk hda.done
    have hca : ¬ c = a := by omega
    have hac : a ≤ c := by omega
    have hab2 : a ≤ b := by omega
    clear hrun hR hg hda
    have hrun := HRUN.out
    go_wp2
    go_ret
    exact ⟨_, rfl, by rw [← HDA.out]; exact HR3.out, HG3.out⟩
def aliveOf (l : List Node) : List Node := l.filter fun x => !decide (x.f3 = 0)
def visOf (l : List Node) : List Node := aliveOf (nds (ordOf l))
def index_visible.f (l0 : List Node) : Option (List Node × Int) := if l0.length ≤ 1000000 then some (if storeOk l0 = true then (visOf l0, 0) else ([], 2)) else none
theorem dead_call (x : Node) (W : World) : Calls Tryd.prog 74 #[vNode x] W fun e W' => e = .returned (.bool (decide (x.f3 = 0))) ∧ Below W.heap.size W W' :=
 node_Dead.calls x.f0.f0 x.f0.f1 x.f1.f0 x.f1.f1 x.f2 x.f3 (decide (x.f3 = 0)) W (by unfold node_Dead.f; by_cases h : x.f3 = 0 <;> simp [h])
theorem dead_enters : ∀ args W, (callFunc 74 args).run Tryd.prog W = .ok (.enter 74 args) W := enters_of Tryd.func74 (by kernel_rfl) rfl
theorem grown_on {w W V : World} {row : Option Nat} (h : W.grownBy V row) (hb : Below w.heap.size w W) (hr : ∀ k, row = some k → w.heap.size ≤ k) : Below w.heap.size w V := hb.grown h hb.size hr
theorem R_base {W : World} {base : Nat} {v : Value} {l : List Node} (h : Kd.R k37 37 W base (fun _ => True) v l) : ∀ k, v.ownBlock = some k → base ≤ k := fun k e => by
 obtain ⟨_, ho⟩ := cells_of_R h
 rcases ho with ⟨rfl, _⟩ | ⟨g, cap, cur, rfl, hb, _⟩
 ·
  cases e
 ·
  cases e; exact hb
theorem nds_length (l : List (Nat × Node)) : (nds l).length = l.length := by unfold nds; rw [List.length_map]
theorem aliveOf_le (l : List Node) : (aliveOf l).length ≤ l.length := List.length_filter_le _ _
set_option maxHeartbeats 400000 in
theorem index_visible.calls (A0 : Option Addr) (c0 : Nat) (ll : List Node) (r0 : List Node) (r1 : Int) (w : World) (hr0 : Kd.C k37 w A0 ll.length ll) (hc0 : ll.length ≤ c0) (h : index_visible.f ll = some (r0, r1)) :
  Calls Tryd.prog 53 #[.slice A0 ll.length c0] w fun e w' => ∃ v0_ : Value, e = .returned (.tuple #[v0_, .int .i64 r1]) ∧ Kd.R k37 37 w' w.heap.size (fun _ => True) v0_ r0 ∧ Below w.heap.size w w' := by
 unfold index_visible.f at h
 by_cases hl : ll.length ≤ 1000000
 rotate_left
 ·
  rw [if_neg hl] at h; cases h
 rw [if_pos hl] at h
 obtain ⟨o, eo, he, ho⟩ : ∃ o eo, walk_Order.f ll = some (o, eo) ∧ (r0 = aliveOf o ∧ r1 = eo ∧ o.length ≤ 1000000) := by
  unfold walk_Order.f
  rw [if_pos hl]
  by_cases hs : storeOk ll = true
  ·
   rw [if_pos hs] at h ⊢
   cases h
   exact ⟨_, _, rfl, rfl, rfl, by have := ord_le (store_of hs); rw [List.length_map]; omega⟩
  ·
   rw [if_neg hs] at h ⊢
   cases h
   exact ⟨_, _, rfl, rfl, rfl, by simp⟩
 obtain ⟨rfl, rfl, hol⟩ := ho
 have HO := Aside0.mk (walk_Order.calls A0 c0 ll o r1 w hr0 hc0 he)
 have HL := Aside0.mk hol
 clear h hr0 hc0 he hol hl
 go_enter Tryd.func53, Tryd.ntmps53
 go_wp2_with fail
 refine HO.out.mono ?_
 rintro e W ⟨v, rfl, hR, hb⟩
 have HR := Aside0.mk hR
 have HB := Aside0.mk hb
 clear hR hb HO
 go_wp2_with fail
 refine (DeleteFuncNode.calls (fun x => decide (x.f3 = 0)) 74 w.heap.size v o W HR.out HL.out dead_enters dead_call).mono ?_
 rintro e V ⟨v2, rfl, hR2, hg⟩
 have HR2 := Aside0.mk hR2
 have HB2 := Aside0.mk (grown_on hg HB.out (R_base HR.out))
 clear hR2 hg
 go_wp2
 go_ret2
 exact ⟨_, rfl, HR2.out, HB2.out⟩
end Go.Proofs.YtjlpaagnajmogaaDoor.PWalk
end
section
namespace Go.Proofs.YtjlpaagnajmogaaDoor.PWalk
open Go.RowKit Go.Proofs.YtjlpaagnajmogaaDoorW.PrintWords Go.Proofs.YtjlpaagnajmogaaDoorW.PrintLast Go.Proofs.YtjlpaagnajmogaaDoorW.PrintMore
set_option linter.unusedVariables false
set_option linter.unusedSimpArgs false
def index_first.l0 : Nat → List Int → Int → Int → Option (Int)
 | 0, _, _, _ => none
 | k + 1, x5, x6, x7 => if x7 < x6 then (if 0 ≤ x7 then (if x7 < (x5.length : Int) then (if (rd x5 x7) = 0 then (index_first.l0 k x5 x6 (wrap64 (x7 + 1))) else (some (rd x5 x7))) else (none)) else (none)) else (some 0)
def index_first.f (k : Nat) (l0 : List Int) : Option (Int) := index_first.l0 k l0 (l0.length : Int) 0
set_option maxHeartbeats 8000000 in
set_option maxRecDepth 100000 in
theorem index_first.calls (k : Nat) (A0 : Option Addr) (c0 : Nat) (l0 : List Int) (r : Int) (w : World) (hr0 : Kd.C (Kd.int .i64) w A0 l0.length l0) (hc0 : l0.length ≤ c0) (h : index_first.f k l0 = some r) :
  Calls Tryd.prog 56 #[.slice A0 l0.length c0] w fun e w' => e = .returned (.int .i64 r) ∧ Drawn0 w w' := by
 have HR0 := Aside0.mk hr0
 have HC0 := Aside0.mk hc0
 clear hr0 hc0
 have H : (index_first.l0 k l0 (l0.length : Int) 0) = some r := h
 clear h
 have H' := Aside0.mk H
 clear H
 go_enter Tryd.func56, Tryd.ntmps56
 go_wp2
 go_loopg [7] k (fun kq v7 w' => ∃ (x7_1 : Int), v7 = .int .i64 x7_1 ∧ Aside0 (index_first.l0 kq l0 (l0.length : Int) x7_1 = some r) ∧ Aside0 (kq ≤ k) ∧ Drawn0 w w')
 case atStart => exact ⟨(0), (by first | rfl | (simp; done) | (simp [*]; done)), H', ⟨Nat.le_refl _⟩, by repeat (first | exact Drawn0.refl _ | apply Drawn0.step)⟩
 case round =>
  clear H'
  obtain ⟨x7_1, rfl, HA, HK1, ⟨m1, rfl⟩⟩ := hrel
  cases gk with
  | zero => exact absurd HA.out (by simp [index_first.l0])
  | succ k1 =>
   have H := HA.out
   clear HA
   simp only [index_first.l0] at H
   by_cases c2 : x7_1 < (l0.length : Int)
   ·
    rw [if_pos c2] at H
    have c2b0 : decide (x7_1 < (l0.length : Int)) = true := decide_eq_true c2
    clear c2
    by_cases c3 : 0 ≤ x7_1
    ·
     rw [if_pos c3] at H
     have c3b0 : decide (0 ≤ x7_1) = true := decide_eq_true c3
     clear c3
     by_cases c4 : x7_1 < (l0.length : Int)
     ·
      rw [if_pos c4] at H
      have c4b0 : decide (x7_1 < (l0.length : Int)) = true := decide_eq_true c4
      clear c4
      by_cases c5 : (rd l0 x7_1) = 0
      ·
       rw [if_pos c5] at H
       have c5b0 : ((rd l0 x7_1) == 0) = true := beq_iff_eq.mpr c5
       have c5b1 : ((rd l0 x7_1) != 0) = false := bne_eq_false_iff_eq.mpr c5
       clear c5
       have H' := Aside0.mk H
       clear H
       have p126 : 0 ≤ (x7_1 : Int) := of_decide_eq_true (by first | (with_reducible assumption) | assumption)
       have q126 : x7_1 < (l0.length : Int) := of_decide_eq_true (by first | (with_reducible assumption) | assumption)
       obtain ⟨ad126, e126, hx126_0⟩ := Kd.at_int HR0.out x7_1 p126 q126
       cases e126
       replace p126 := eq_true p126
       replace q126 := eq_true q126
       go_wp2
       go_roundg k1
       case measure => have := HK1.out; omega
       case rel => exact ⟨(wrap64 (x7_1 + 1)), (by first | rfl | (simp; done) | (simp [*]; done)), H', ⟨by have := HK1.out; omega⟩, by repeat (first | exact Drawn0.refl _ | apply Drawn0.step)⟩
      ·
       rw [if_neg c5] at H
       have c5b0 : ((rd l0 x7_1) == 0) = false := beq_eq_false_iff_ne.mpr c5
       have c5b1 : ((rd l0 x7_1) != 0) = true := bne_iff_ne.mpr c5
       obtain rfl := Option.some.inj H
       have p126 : 0 ≤ (x7_1 : Int) := of_decide_eq_true (by first | (with_reducible assumption) | assumption)
       have q126 : x7_1 < (l0.length : Int) := of_decide_eq_true (by first | (with_reducible assumption) | assumption)
       obtain ⟨ad126, e126, hx126_0⟩ := Kd.at_int HR0.out x7_1 p126 q126
       cases e126
       replace p126 := eq_true p126
       replace q126 := eq_true q126
       go_wp2
       go_ret
       exact ⟨by first | rfl | (simp; done) | (simp [*]; done), by repeat (first | exact Drawn0.refl _ | apply Drawn0.step)⟩
     ·
      rw [if_neg c4] at H
      exact absurd H (by simp)
    ·
     rw [if_neg c3] at H
     exact absurd H (by simp)
   ·
    rw [if_neg c2] at H
    have c2b0 : decide (x7_1 < (l0.length : Int)) = false := decide_eq_false c2
    clear c2
    obtain rfl := Option.some.inj H
    go_wp2
    go_ret
    exact ⟨by first | rfl | (simp; done) | (simp [*]; done), by repeat (first | exact Drawn0.refl _ | apply Drawn0.step)⟩
def index_when.f (a0 : Bool) (a1 : Int) : Option (Int) := if a0 = true then (some a1) else (some 0)
set_option maxHeartbeats 8000000 in
set_option maxRecDepth 100000 in
theorem index_when.calls (a0 : Bool) (a1 : Int) (r : Int) (w : World) (h : index_when.f a0 a1 = some r) :
  Calls Tryd.prog 57 #[.bool a0, .int .i64 a1] w fun e w' => e = .returned (.int .i64 r) ∧ Drawn0 w w' := by
 have H : (if a0 = true then (some a1) else (some 0)) = some r := h
 clear h
 by_cases c3 : a0 = true
 ·
  subst c3
  have H1 : (some a1) = some r := by rw [if_pos rfl] at H; exact H
  clear H
  have H := H1
  clear H1
  obtain rfl := Option.some.inj H
  go_enter Tryd.func57, Tryd.ntmps57
  go_wp2
  go_ret
  exact ⟨by first | rfl | (simp; done) | (simp [*]; done), by repeat (first | exact Drawn0.refl _ | apply Drawn0.step)⟩
 ·
  replace c3 := Bool.eq_false_iff.mpr c3
  subst c3
  have H1 : (some 0) = some r := by rw [if_neg (show ¬ (false = true) by decide)] at H; exact H
  clear H
  have H := H1
  clear H1
  obtain rfl := Option.some.inj H
  go_enter Tryd.func57, Tryd.ntmps57
  go_wp2
  go_ret
  exact ⟨by first | rfl | (simp; done) | (simp [*]; done), by repeat (first | exact Drawn0.refl _ | apply Drawn0.step)⟩
end Go.Proofs.YtjlpaagnajmogaaDoor.PWalk
end
section
namespace Go.Proofs.YtjlpaagnajmogaaDoor.PWalk
open Go.RowKit Go.Proofs.YtjlpaagnajmogaaDoorW.PrintWords Go.Proofs.YtjlpaagnajmogaaDoorW.PrintLast Go.Proofs.YtjlpaagnajmogaaDoorW.PrintMore
set_option linter.unusedVariables false
set_option linter.unusedSimpArgs false
open Go.Shelf
attribute [local go_sem] Oper.semAt_some
set_option maxHeartbeats 400000 in
theorem IndexFuncBy.calls (p : Node → Bool) (fn : Nat) (rv : Value) (A0 : Option Addr) (c0 : Nat) (l0 : List Node) (w : World) (hr0 : Kd.C k37 w A0 l0.length l0) (hc0 : l0.length ≤ c0)
  (hcall : ∀ args W, (callFunc fn args).run Tryd.prog W = .ok (.enter fn args) W)
  (hp : ∀ x W, Calls Tryd.prog fn #[rv, vNode x] W fun e W' => e = .returned (.bool (p x)) ∧ Below W.heap.size W W') :
  Calls Tryd.prog 69 #[.slice A0 l0.length c0, .func (.func fn) #[rv] #[]] w fun e w' => e = .returned (.int .i64 (idxFrom p l0)) ∧ Below w.heap.size w w' := by
 have hm := Kd.C_max hr0
 have hu := Tryd.underlying37
 have HR := Aside0.mk hr0
 have HP := Aside0.mk hp
 have HC := Aside0.mk hc0
 clear hr0 hp hc0
 go_enter Tryd.func69, Tryd.ntmps69
 go_wp2
 go_loopw [5, 8] (fun _ i wr => ∃ k : Nat, k ≤ l0.length ∧ i = .int .i64 k ∧ Aside0 (∀ j y, j < k → l0[j]? = some y → p y = false) ∧ Aside0 (Below w.heap.size w wr)) (fun _ i _ => l0.length - (intOf i).toNat)
 case atStart => exact ⟨0, Nat.zero_le _, rfl, ⟨fun j y hj => absurd hj (Nat.not_lt_zero _)⟩, ⟨Below.refl _ _⟩⟩
 case round =>
  obtain ⟨k, hk, rfl, hno, hb⟩ := hrel
  by_cases hlt : k < l0.length
  ·
   obtain ⟨x, hx⟩ : ∃ x, Aside0 (l0[k]? = some x) := ⟨_, ⟨List.getElem?_eq_getElem hlt⟩⟩
   obtain ⟨ad, e, h0, h1, h2, h3, h4, h5⟩ := node_at HR.out hb.out k x hx.out
   subst e
   cases hpx : p x with
   | true =>
    have HX := Aside0.mk hpx
    clear hpx
    go_wp2
    refine (HP.out x _).mono ?_
    rintro e W' ⟨rfl, hb2⟩
    rw [HX.out]
    go_wp2
    go_ret
    exact ⟨by rw [idxFrom_at hx.out HX.out hno.out]; rfl, below_then hb.out hb.out.size hb2⟩
   | false =>
    have HX := Aside0.mk hpx
    clear hpx
    go_wp2
    refine (HP.out x _).mono ?_
    rintro e W' ⟨rfl, hb2⟩
    rw [HX.out]
    go_wp2
    go_roundw
    case rel => exact ⟨k + 1, by omega, by go_num, ⟨no_step hx.out HX.out hno.out⟩, ⟨below_then hb.out hb.out.size hb2⟩⟩
    case measure => simp [intOf]; omega
  ·
   go_wp2
   go_ret
   obtain rfl : k = l0.length := by omega
   exact ⟨by rw [idxFrom_none hno.out]; rfl, hb.out⟩
def dotIs (d : Dot) (x : Node) : Bool := x.f0.f0 == d.f0 && x.f0.f1 == d.f1
set_option maxHeartbeats 400000 in
set_option maxRecDepth 100000 in
theorem by_call (d : Dot) (x : Node) (W : World) : Calls Tryd.prog 79 #[vDot d, vNode x] W fun e W' => e = .returned (.bool (dotIs d x)) ∧ Below W.heap.size W W' := by
 have hu := Tryd.underlying37
 have hu2 := Tryd.underlying35
 have hu3 := Tryd.underlying105
 go_enter Tryd.func79, Tryd.ntmps79
 go_wp2
 all_goals (go_ret; exact ⟨by first | rfl | (simp_all [dotIs]; done), below_alloc (below_alloc (Below.refl _ W) _) _⟩)
theorem by_enters : ∀ args W, (callFunc 79 args).run Tryd.prog W = .ok (.enter 79 args) W := enters_of Tryd.func79 (by kernel_rfl) rfl
def index_Of.f (l0 : List Node) (a1_0 a1_1 : Int) : Option (Int × Int) :=
 if l0.length ≤ 1000000 then some (if storeOk l0 = true ∧ dotOk ⟨a1_0, a1_1⟩ = true then (if idxFrom (dotIs ⟨a1_0, a1_1⟩) (visOf l0) < 0 then (0, 9) else (idxFrom (dotIs ⟨a1_0, a1_1⟩) (visOf l0), 0)) else (0, 2)) else none
theorem vis_is {ll : List Node} (hl : ll.length ≤ 1000000) : index_visible.f ll = some (if storeOk ll = true then (visOf ll, 0) else ([], 2)) := by
 unfold index_visible.f
 rw [if_pos hl]
theorem when_is (b : Bool) (n : Int) : index_when.f b n = some (if b = true then n else 0) := by
 unfold index_when.f
 cases b <;> rfl
theorem first3_is (a b c : Int) : index_first.f 10 [a, b, c] = some (if a = 0 then (if b = 0 then c else b) else a) := by
 by_cases ha : a = 0
 ·
  by_cases hb : b = 0
  ·
   by_cases hc : c = 0
   ·
    subst ha hb hc; kernel_rfl
   ·
    subst ha hb
    simp [index_first.f, index_first.l0, rd, wrap64, hc]
  ·
   subst ha
   simp [index_first.f, index_first.l0, rd, wrap64, hb]
 ·
  simp [index_first.f, index_first.l0, rd, ha]
theorem first2_is (a b : Int) : index_first.f 10 [a, b] = some (if a = 0 then b else a) := by
 by_cases ha : a = 0
 ·
  by_cases hb : b = 0
  ·
   subst ha hb; kernel_rfl
  ·
   subst ha
   simp [index_first.f, index_first.l0, rd, wrap64, hb]
 ·
  simp [index_first.f, index_first.l0, rd, ha]
theorem errs_C {W : World} {g : Nat} {t : TypeId} {zs : List Int} (h : W.heap[g]? = some (.cells (zs.map (Value.int .i64)).toArray t (0, 0))) (hl : zs.length ≤ 1000000) : Kd.C (Kd.int .i64) W (some ⟨g, 0, none⟩) zs.length zs := by
 have hr : ReadsInt W .i64 (some ⟨g, 0, none⟩) zs.length zs := ⟨rfl, by omega, fun _ => ⟨_, rfl, fun j hj => by
  rw [show (⟨g, 0, none⟩ : Addr).add j = ⟨g, j, none⟩ by rw [add_lit, Nat.zero_add], blk_cell h]
  simp [hj]⟩⟩
 exact Kd.C_of_reads (d := (0 : Int)) (h1 := fun _ => rfl) hr
theorem when_out {b : Bool} {n r : Int} (h : index_when.f b n = some r) : r = if b = true then n else 0 := by rw [when_is] at h; exact (Option.some.inj h).symm
theorem first3_out {a b c r : Int} (h : index_first.f 10 [a, b, c] = some r) : r = if a = 0 then (if b = 0 then c else b) else a := by rw [first3_is] at h; exact (Option.some.inj h).symm
theorem of_end {b b2 : Bool} {ev i n1 n2 r3 r1 r2 i' m : Int} (hv : (b = true → i = i' ∧ ev = 0) ∧ (b = false → ev = 2)) (h1 : n1 = if (!b2) = true then 2 else 0) (h2 : n2 = if decide (i < 0) = true then 9 else 0) (h3 : r3 = if ev = 0 then (if n1 = 0 then n2 else n1) else ev)
  (hh : (if b = true ∧ b2 = true then (if i' < 0 then ((0 : Int), (9 : Int)) else (m, 0)) else (0, 2)) = (r1, r2)) : (r3 = 0 → 0 ≤ i ∧ b = true ∧ r1 = m ∧ r2 = 0) ∧ (¬ r3 = 0 → r1 = 0 ∧ r2 = r3) := by
 cases b with
 | false =>
  have he := hv.2 rfl
  subst he
  rw [if_neg (by simp)] at hh
  cases hh
  subst h3
  simp
 | true =>
  obtain ⟨rfl, rfl⟩ := hv.1 rfl
  cases b2 with
  | false =>
   rw [if_neg (by simp)] at hh
   cases hh
   subst h1 h3
   simp
  | true =>
   rw [if_pos (by simp)] at hh
   subst h1
   by_cases hi : i < 0
   ·
    rw [if_pos hi] at hh
    cases hh
    subst h2 h3
    simp [hi]
   ·
    rw [if_neg hi] at hh
    cases hh
    subst h2 h3
    simp [hi]
    omega
set_option maxHeartbeats 1000000 in
set_option maxRecDepth 100000 in
theorem index_Of.calls (A0 : Option Addr) (c0 : Nat) (ll : List Node) (a1_0 a1_1 : Int) (r1 r2 : Int) (w : World) (hr0 : Kd.C k37 w A0 ll.length ll) (hc0 : ll.length ≤ c0) (h : index_Of.f ll a1_0 a1_1 = some (r1, r2)) :
  Calls Tryd.prog 58 #[.slice A0 ll.length c0, .agg #[.int .i64 a1_0, .int .i64 a1_1]] w fun e w' => e = .returned (.tuple #[.int .i64 r1, .int .i64 r2]) ∧ Below w.heap.size w w' := by
 unfold index_Of.f at h
 by_cases hl : ll.length ≤ 1000000
 rotate_left
 ·
  rw [if_neg hl] at h; cases h
 rw [if_pos hl] at h
 have HH := Aside0.mk (Option.some.inj h)
 have HR := Aside0.mk hr0
 have HC := Aside0.mk hc0
 have HL := Aside0.mk hl
 clear h hr0 hc0 hl
 obtain ⟨d, hd⟩ : ∃ d : Dot, d = ⟨a1_0, a1_1⟩ := ⟨_, rfl⟩
 rw [← hd] at HH
 obtain rfl : a1_0 = d.f0 := by rw [hd]
 obtain rfl : a1_1 = d.f1 := by rw [hd]
 clear hd
 obtain ⟨b, Hb⟩ : ∃ b, Aside0 (storeOk ll = b) := ⟨_, ⟨rfl⟩⟩
 obtain ⟨b2, Hb2⟩ : ∃ b, Aside0 (dotOk d = b) := ⟨_, ⟨rfl⟩⟩
 obtain ⟨vl, ev, HV⟩ : ∃ vl ev, Aside0 (index_visible.f ll = some (vl, ev) ∧ (b = true → vl = visOf ll ∧ ev = 0) ∧ (b = false → vl = [] ∧ ev = 2)) := by
  rw [vis_is HL.out]
  cases b with
  | true => exact ⟨visOf ll, 0, ⟨by rw [if_pos Hb.out], fun _ => ⟨rfl, rfl⟩, fun h => (by cases h)⟩⟩
  | false => exact ⟨[], 2, ⟨by rw [if_neg (by rw [Hb.out]; decide)], fun h => (by cases h), fun _ => ⟨rfl, rfl⟩⟩⟩
 rw [Hb.out, Hb2.out] at HH
 have HX := Aside0.mk (blk_new w (dotC d))
 go_enter Tryd.func58, Tryd.ntmps58
 go_wp2_with fail
 refine (index_visible.calls A0 _ ll vl ev _ (Kd.C_below HR.out (below_alloc (Below.refl _ w) (dotC d))) HC.out HV.out.1).mono ?_
 rintro e W ⟨v, rfl, hR, hb⟩
 obtain ⟨A, c, rfl⟩ := RN.slice hR
 have HVC := Aside0.mk (Kd.R_reads' hR).2
 have HX := Aside0.mk (blk_keep HX.out hb)
 have HB := Aside0.mk (below_more (below_alloc (Below.refl _ w) (dotC d)) hb)
 clear hR hb
 obtain ⟨i, Hi⟩ : ∃ i, Aside0 (idxFrom (dotIs d) vl = i) := ⟨_, ⟨rfl⟩⟩
 have HI := Aside0.mk (IndexFuncBy.calls (dotIs d) 79 (vDot d) A c vl W HVC.out.2 HVC.out.1 by_enters (by_call d))
 rw [Hi.out] at HI
 have x0 : W.cell? ⟨w.heap.size, 0, none⟩ = _ := (blk_cell HX.out 0).trans rfl
 have x1 : W.cell? ⟨w.heap.size, 1, none⟩ = _ := (blk_cell HX.out 1).trans rfl
 go_wp2_with fail
 refine HI.out.mono ?_
 rintro e W2 ⟨rfl, hb⟩
 have HX := Aside0.mk (blk_keep HX.out hb)
 have HB := Aside0.mk (below_more HB.out hb)
 clear hb x0 x1 HI HVC
 have x0 : W2.cell? ⟨w.heap.size, 0, none⟩ = _ := (blk_cell HX.out 0).trans rfl
 have x1 : W2.cell? ⟨w.heap.size, 1, none⟩ = _ := (blk_cell HX.out 1).trans rfl
 obtain ⟨n1, H1⟩ : ∃ n, Aside0 (index_when.f (!b2) 2 = some n) := ⟨_, ⟨when_is _ _⟩⟩
 obtain ⟨n2, H2⟩ : ∃ n, Aside0 (index_when.f (decide (i < 0)) 9 = some n) := ⟨_, ⟨when_is _ _⟩⟩
 obtain ⟨r3, H3⟩ : ∃ n, Aside0 (index_first.f 10 [ev, n1, n2] = some n) := ⟨_, ⟨first3_is _ _ _⟩⟩
 go_wp2_with fail
 refine (dot_Valid.calls d.f0 d.f1 b2 W2 (by rw [dotValid_is, Hb2.out])).mono ?_
 rintro e W3 ⟨rfl, hb⟩
 have HB := Aside0.mk (below_more HB.out hb)
 clear hb x0 x1 HX
 go_wp2_with fail
 refine (index_when.calls _ _ n1 _ H1.out).mono ?_
 rintro e W4 ⟨rfl, hb⟩
 have HB := Aside0.mk (below_more HB.out hb.below)
 clear hb
 go_wp2_with fail
 refine (index_when.calls _ _ n2 _ H2.out).mono ?_
 rintro e W5 ⟨rfl, hb⟩
 have HB := Aside0.mk (below_more HB.out hb.below)
 clear hb
 go_wp2_with fail
 refine (index_first.calls 10 (some ⟨W5.heap.size, 0, none⟩) 3 [ev, n1, n2] r3 _ (errs_C (zs := [ev, n1, n2]) (blk_new W5 _) (by show 3 ≤ 1000000; omega)) (Nat.le_refl 3) H3.out).mono ?_
 rintro e W6 ⟨rfl, hb⟩
 have HB := Aside0.mk (below_more (below_alloc HB.out _) hb.below)
 have HE := Aside0.mk (of_end (b := b) (b2 := b2) (ev := ev) (i := i) (i' := idxFrom (dotIs d) (visOf ll)) (m := idxFrom (dotIs d) (visOf ll)) ⟨fun e => ⟨by rw [← Hi.out, (HV.out.2.1 e).1], (HV.out.2.1 e).2⟩, fun e => (HV.out.2.2 e).2⟩ (when_out H1.out) (when_out H2.out) (first3_out H3.out) HH.out)
 clear hb
 by_cases hr : r3 = 0
 ·
  obtain ⟨_, hbt, e1, e2⟩ := HE.out.1 hr
  have HI2 := Aside0.mk (show idxFrom (dotIs d) (visOf ll) = i by rw [← Hi.out, (HV.out.2.1 hbt).1])
  rw [HI2.out] at e1
  subst e1 e2
  have hr1 : (r3 != 0) = false := by simp [hr]
  clear hr hbt
  go_wp2
  go_ret2
  exact ⟨rfl, HB.out⟩
 ·
  obtain ⟨e1, e2⟩ := HE.out.2 hr
  subst e1 e2
  have hr1 : (r2 != 0) = true := by simp [hr]
  clear hr
  go_wp2
  go_ret2
  exact ⟨rfl, HB.out⟩
def index_Before.f (l0 : List Node) (a1_0 a1_1 : Int) : Option (Int × Int) :=
 if l0.length ≤ 1000000 then some (if storeOk l0 = true ∧ dotOk ⟨a1_0, a1_1⟩ = true then (if idxFrom (dotIs ⟨a1_0, a1_1⟩) (nds (ordOf l0)) < 0 then (0, 9) else (((aliveOf ((nds (ordOf l0)).take (idxFrom (dotIs ⟨a1_0, a1_1⟩) (nds (ordOf l0))).toNat)).length : Int), 0)) else (0, 2)) else none
theorem ord_is {ll : List Node} (hl : ll.length ≤ 1000000) : walk_Order.f ll = some (if storeOk ll = true then (nds (ordOf ll), 0) else ([], 2)) := by
 unfold walk_Order.f
 rw [if_pos hl]
 rfl
set_option maxHeartbeats 1000000 in
set_option maxRecDepth 100000 in
theorem index_Before.calls (A0 : Option Addr) (c0 : Nat) (ll : List Node) (a1_0 a1_1 : Int) (r1 r2 : Int) (w : World) (hr0 : Kd.C k37 w A0 ll.length ll) (hc0 : ll.length ≤ c0) (h : index_Before.f ll a1_0 a1_1 = some (r1, r2)) :
  Calls Tryd.prog 59 #[.slice A0 ll.length c0, .agg #[.int .i64 a1_0, .int .i64 a1_1]] w fun e w' => e = .returned (.tuple #[.int .i64 r1, .int .i64 r2]) ∧ Below w.heap.size w w' := by
 unfold index_Before.f at h
 by_cases hl : ll.length ≤ 1000000
 rotate_left
 ·
  rw [if_neg hl] at h; cases h
 rw [if_pos hl] at h
 have HH := Aside0.mk (Option.some.inj h)
 have HR := Aside0.mk hr0
 have HC := Aside0.mk hc0
 have HL := Aside0.mk hl
 clear h hr0 hc0 hl
 obtain ⟨d, hd⟩ : ∃ d : Dot, d = ⟨a1_0, a1_1⟩ := ⟨_, rfl⟩
 rw [← hd] at HH
 obtain rfl : a1_0 = d.f0 := by rw [hd]
 obtain rfl : a1_1 = d.f1 := by rw [hd]
 clear hd
 obtain ⟨b, Hb⟩ : ∃ b, Aside0 (storeOk ll = b) := ⟨_, ⟨rfl⟩⟩
 obtain ⟨b2, Hb2⟩ : ∃ b, Aside0 (dotOk d = b) := ⟨_, ⟨rfl⟩⟩
 obtain ⟨vl, ev, HV⟩ : ∃ vl ev, Aside0 (walk_Order.f ll = some (vl, ev) ∧ (b = true → vl = nds (ordOf ll) ∧ ev = 0) ∧ (b = false → vl = [] ∧ ev = 2)) := by
  rw [ord_is HL.out]
  cases b with
  | true => exact ⟨nds (ordOf ll), 0, ⟨by rw [if_pos Hb.out], fun _ => ⟨rfl, rfl⟩, fun h => (by cases h)⟩⟩
  | false => exact ⟨[], 2, ⟨by rw [if_neg (by rw [Hb.out]; decide)], fun h => (by cases h), fun _ => ⟨rfl, rfl⟩⟩⟩
 rw [Hb.out, Hb2.out] at HH
 have HX := Aside0.mk (blk_new w (dotC d))
 go_enter Tryd.func59, Tryd.ntmps59
 go_wp2_with fail
 refine (walk_Order.calls A0 _ ll vl ev _ (Kd.C_below HR.out (below_alloc (Below.refl _ w) (dotC d))) HC.out HV.out.1).mono ?_
 rintro e W ⟨v, rfl, hR, hb⟩
 obtain ⟨A, c, rfl⟩ := RN.slice hR
 have HVC := Aside0.mk (Kd.R_reads' hR).2
 have HRO := Aside0.mk hR
 have HX := Aside0.mk (blk_keep HX.out hb)
 have HB := Aside0.mk (below_more (below_alloc (Below.refl _ w) (dotC d)) hb)
 clear hR hb
 obtain ⟨i, Hi⟩ : ∃ i, Aside0 (idxFrom (dotIs d) vl = i) := ⟨_, ⟨rfl⟩⟩
 have HI := Aside0.mk (IndexFuncBy.calls (dotIs d) 79 (vDot d) A c vl W HVC.out.2 HVC.out.1 by_enters (by_call d))
 rw [Hi.out] at HI
 have x0 : W.cell? ⟨w.heap.size, 0, none⟩ = _ := (blk_cell HX.out 0).trans rfl
 have x1 : W.cell? ⟨w.heap.size, 1, none⟩ = _ := (blk_cell HX.out 1).trans rfl
 go_wp2_with fail
 refine HI.out.mono ?_
 rintro e W2 ⟨rfl, hb⟩
 have HX := Aside0.mk (blk_keep HX.out hb)
 have HB := Aside0.mk (below_more HB.out hb)
 have HRO := Aside0.mk (own_more HRO.out hb)
 clear hb x0 x1 HI HVC
 have x0 : W2.cell? ⟨w.heap.size, 0, none⟩ = _ := (blk_cell HX.out 0).trans rfl
 have x1 : W2.cell? ⟨w.heap.size, 1, none⟩ = _ := (blk_cell HX.out 1).trans rfl
 obtain ⟨n1, H1⟩ : ∃ n, Aside0 (index_when.f (!b2) 2 = some n) := ⟨_, ⟨when_is _ _⟩⟩
 obtain ⟨n2, H2⟩ : ∃ n, Aside0 (index_when.f (decide (i < 0)) 9 = some n) := ⟨_, ⟨when_is _ _⟩⟩
 obtain ⟨r3, H3⟩ : ∃ n, Aside0 (index_first.f 10 [ev, n1, n2] = some n) := ⟨_, ⟨first3_is _ _ _⟩⟩
 go_wp2_with fail
 refine (dot_Valid.calls d.f0 d.f1 b2 W2 (by rw [dotValid_is, Hb2.out])).mono ?_
 rintro e W3 ⟨rfl, hb⟩
 have HB := Aside0.mk (below_more HB.out hb)
 have HRO := Aside0.mk (own_more HRO.out hb)
 clear hb x0 x1 HX
 go_wp2_with fail
 refine (index_when.calls _ _ n1 _ H1.out).mono ?_
 rintro e W4 ⟨rfl, hb⟩
 have HB := Aside0.mk (below_more HB.out hb.below)
 have HRO := Aside0.mk (own_more HRO.out hb.below)
 clear hb
 go_wp2_with fail
 refine (index_when.calls _ _ n2 _ H2.out).mono ?_
 rintro e W5 ⟨rfl, hb⟩
 have HB := Aside0.mk (below_more HB.out hb.below)
 have HRO := Aside0.mk (own_more HRO.out hb.below)
 clear hb
 go_wp2_with fail
 refine (index_first.calls 10 (some ⟨W5.heap.size, 0, none⟩) 3 [ev, n1, n2] r3 _ (errs_C (zs := [ev, n1, n2]) (blk_new W5 _) (by show 3 ≤ 1000000; omega)) (Nat.le_refl 3) H3.out).mono ?_
 rintro e W6 ⟨rfl, hb⟩
 have HB := Aside0.mk (below_more (below_alloc HB.out _) hb.below)
 have HRO := Aside0.mk (own_more (own_more HRO.out (below_alloc (Below.refl _ W5) _)) hb.below)
 have HE := Aside0.mk (of_end (b := b) (b2 := b2) (ev := ev) (i := i) (i' := idxFrom (dotIs d) (nds (ordOf ll))) (m := ((aliveOf ((nds (ordOf ll)).take (idxFrom (dotIs d) (nds (ordOf ll))).toNat)).length : Int)) ⟨fun e => ⟨by rw [← Hi.out, (HV.out.2.1 e).1], (HV.out.2.1 e).2⟩, fun e => (HV.out.2.2 e).2⟩ (when_out H1.out) (when_out H2.out) (first3_out H3.out) HH.out)
 clear hb
 by_cases hr : r3 = 0
 ·
  obtain ⟨hi0, hbt, e1, e2⟩ := HE.out.1 hr
  have hvl := (HV.out.2.1 hbt).1
  rw [← hvl, Hi.out] at e1
  subst e2
  have hr1 : (r3 != 0) = false := by simp [hr]
  rcases idxFrom_cases (dotIs d) vl with ⟨h1, _⟩ | ⟨k, x, hk, h1, _, _⟩
  ·
   rw [Hi.out] at h1; omega
  rw [Hi.out] at h1
  subst h1
  have hkl := (List.getElem?_eq_some_iff.1 hk).1
  obtain ⟨g, rfl⟩ : ∃ g, A = some ⟨g, 0, none⟩ := by
   obtain ⟨g, cap, h1, _⟩ := Kd.R_form HRO.out (by omega)
   cases h1
   exact ⟨g, rfl⟩
  obtain ⟨_, cur, _, _, hlc, hcm, _, _⟩ := R_row HRO.out
  have HRT := Aside0.mk (R_tk HRO.out (show k ≤ vl.length by omega))
  have hle : vl.length ≤ 1000000 := by
   have := ord_le (store_of (Hb.out.trans hbt))
   rw [hvl, nds_length]; have := HL.out; omega
  have HLE := Aside0.mk (show (vl.take k).length ≤ 1000000 by rw [List.length_take]; omega)
  have HKT := Aside0.mk (show (vl.take k).length = k by rw [List.length_take]; omega)
  have HBS := Aside0.mk (R_base HRO.out)
  have hkc : k ≤ c := by omega
  rw [Int.toNat_natCast] at e1
  have HE1 := Aside0.mk e1
  clear e1 hr hi0 hk hvl hcm hbt hkl hlc hle
  go_wp2_with fail
  refine (DeleteFuncNode.calls (fun x => decide (x.f3 = 0)) 74 _ _ (vl.take k) W6 HRT.out HLE.out dead_enters dead_call).mono ?_
  rintro e V ⟨v2, rfl, hR2, hg⟩
  have HB2 := Aside0.mk (grown_on hg HB.out (fun q e => Nat.le_trans (by simp) (HBS.out q e)))
  obtain ⟨A2, c2, rfl⟩ := RN.slice hR2
  clear hR2 hg
  go_wp2
  go_ret2
  exact ⟨by rw [HE1.out]; rfl, HB2.out⟩
 ·
  obtain ⟨e1, e2⟩ := HE.out.2 hr
  subst e1 e2
  have hr1 : (r2 != 0) = true := by simp [hr]
  clear hr
  go_wp2
  go_ret2
  exact ⟨rfl, HB.out⟩
end Go.Proofs.YtjlpaagnajmogaaDoor.PWalk
end
section
namespace Go.Proofs.YtjlpaagnajmogaaDoor.PWalk
open Go.RowKit Go.Proofs.YtjlpaagnajmogaaDoorW.PrintWords Go.Proofs.YtjlpaagnajmogaaDoorW.PrintLast Go.Proofs.YtjlpaagnajmogaaDoorW.PrintMore
set_option linter.unusedVariables false
set_option linter.unusedSimpArgs false
open Go.Shelf
attribute [local go_sem] Oper.semAt_some
def index_Dots.f (l0 : List Node) (a1 a2 : Int) : Option (List Dot × Int) :=
 if l0.length ≤ 1000000 then some (if storeOk l0 = true then (if a1 < 0 ∨ a2 < a1 ∨ (visOf l0).length < a2 then ([], 3) else ((((visOf l0).take a2.toNat).drop a1.toNat).map (·.f0), 0)) else ([], 2)) else none
theorem first2_out {a b r : Int} (h : index_first.f 10 [a, b] = some r) : r = if a = 0 then b else a := by rw [first2_is] at h; exact (Option.some.inj h).symm
theorem visOf_le {ll : List Node} (hl : ll.length ≤ 1000000) (hs : storeOk ll = true) : (visOf ll).length ≤ 1000000 := by
 have h1 := aliveOf_le (nds (ordOf ll))
 have h2 := ord_le (store_of hs)
 rw [nds_length] at h1
 unfold visOf
 omega
theorem lit_dotsC (W : World) (g : Nat) (hg : W.heap.size = g) (xs : List Dot) (cs : Array Value) (hcs : cs.toList = dcellsOf xs) (hm : xs.length ≤ 1000000) : Kd.C k35 (W.alloc (.cells cs 35 (0, 0))) (some ⟨g, 0, none⟩) xs.length xs := by
 subst hg
 have hsz : cs.size = xs.length * 2 := by rw [← Array.length_toList, hcs, dcellsOf_length]
 have h : RD (W.alloc (.cells cs 35 (0, 0))) 0 (.slice (some ⟨W.heap.size, 0, none⟩) xs.length xs.length) xs := RD_of_cells ⟨dcellsOf_length _, .inr ⟨W.heap.size, xs.length, cs, rfl, Nat.zero_le _, blk_new _ _, Nat.le_refl _, (show xs.length ≤ 9223372036854775807 by omega), hsz, by rw [← hcs, List.take_of_length_le (by rw [Array.length_toList]; omega)]⟩⟩
 exact (Kd.R_reads' h).2.2
theorem app_dots {ops : Array Oper} {Q : Exit → Act → World → Prop} {o : Oper} {rest : List Oper} {a : Act} {W : World} (w : World) (hgd : o.guard = none) (x y : Operand)
  (ho : o.op = .call { callee := .builtin .append, args := #[x, y], argTypes := #[58, 58] }) (v : Value) (xs : List Dot) (A : Option Addr) (ys : List Dot) (n c : Nat) (hn : ys.length = n) (hx : a.eval x = v) (hy : a.eval y = .slice A n c)
  (hr : Kd.R k35 35 W w.heap.size (fun _ => True) v xs) (hc : Kd.C k35 W A n ys) (hb : Below w.heap.size w W) (hl : xs.length + n ≤ 1000000)
  (h : ∀ v1 w1, Kd.R k35 35 w1 w.heap.size (fun _ => True) v1 (xs ++ ys) → Below w.heap.size w w1 → wpList Tryd.prog ops Q rest (a.put o.dst v1) w1) : wpList Tryd.prog ops Q (o :: rest) a W := by
 subst hn
 refine Kd.R_append_rows k35 (w0 := w) w.heap.size hgd x y 58 35 (.agg #[(.int .i64 0), (.int .i64 0)]) 16 ho Tryd.underlying58 info35 rfl (by decide) (by decide) v xs ys A ys.length c (fun _ => True) (fun _ => False) hx hy hr hc (fun x cs h => (by rw [k35_open h]; exact k35_mkM _ _ _ x)) (fun _ hk => hk.elim) (fun _ _ => trivial) hb hb.size (by omega) ?_
 intro v1 w1 ho hb _ _
 exact h v1 w1 ho hb
theorem dots_end {b : Bool} {ev n2 r3 : Int} {t : Bool} (hv : (b = true → ev = 0) ∧ (b = false → ev = 2)) (h2 : n2 = if t = true then 3 else 0) (h3 : r3 = if ev = 0 then n2 else ev) : (r3 = 0 → b = true ∧ t = false) ∧ (¬ r3 = 0 → (r3 = if b = true then 3 else 2) ∧ (b = true → t = true)) := by
 cases b with
 | false => have := hv.2 rfl; subst this h3; simp
 | true =>
  have := hv.1 rfl
  subst this h3 h2
  cases t <;> simp
set_option maxHeartbeats 1000000 in
set_option maxRecDepth 100000 in
theorem index_Dots.calls (A0 : Option Addr) (c0 : Nat) (ll : List Node) (a1 a2 : Int) (r1 : List Dot) (r2 : Int) (w : World) (hr0 : Kd.C k37 w A0 ll.length ll) (hc0 : ll.length ≤ c0) (h : index_Dots.f ll a1 a2 = some (r1, r2)) :
  Calls Tryd.prog 30 #[.slice A0 ll.length c0, .int .i64 a1, .int .i64 a2] w fun e w' => ∃ v0_ : Value, e = .returned (.tuple #[v0_, .int .i64 r2]) ∧ Kd.R k35 35 w' w.heap.size (fun _ => True) v0_ r1 ∧ Below w.heap.size w w' := by
 unfold index_Dots.f at h
 by_cases hl : ll.length ≤ 1000000
 rotate_left
 ·
  rw [if_neg hl] at h; cases h
 rw [if_pos hl] at h
 have HH := Aside0.mk (Option.some.inj h)
 have HR := Aside0.mk hr0
 have HC := Aside0.mk hc0
 have HL := Aside0.mk hl
 clear h hr0 hc0 hl
 obtain ⟨b, Hb⟩ : ∃ b, Aside0 (storeOk ll = b) := ⟨_, ⟨rfl⟩⟩
 obtain ⟨vl, ev, HV⟩ : ∃ vl ev, Aside0 (index_visible.f ll = some (vl, ev) ∧ (b = true → vl = visOf ll ∧ ev = 0) ∧ (b = false → vl = [] ∧ ev = 2)) := by
  rw [vis_is HL.out]
  cases b with
  | true => exact ⟨visOf ll, 0, ⟨by rw [if_pos Hb.out], fun _ => ⟨rfl, rfl⟩, fun h => (by cases h)⟩⟩
  | false => exact ⟨[], 2, ⟨by rw [if_neg (by rw [Hb.out]; decide)], fun h => (by cases h), fun _ => ⟨rfl, rfl⟩⟩⟩
 rw [Hb.out] at HH
 obtain ⟨t, Ht⟩ : ∃ t : Bool, Aside0 (decide (a1 < 0 ∨ a2 < a1 ∨ (vl.length : Int) < a2) = t) := ⟨_, ⟨rfl⟩⟩
 obtain ⟨n2, H2⟩ : ∃ n, Aside0 (index_when.f t 3 = some n) := ⟨_, ⟨when_is _ _⟩⟩
 obtain ⟨r3, H3⟩ : ∃ n, Aside0 (index_first.f 10 [ev, n2] = some n) := ⟨_, ⟨first2_is _ _⟩⟩
 have HE := Aside0.mk (dots_end (b := b) (t := t) (ev := ev) ⟨fun e => (HV.out.2.1 e).2, fun e => (HV.out.2.2 e).2⟩ (when_out H2.out) (first2_out H3.out))
 go_enter Tryd.func30, Tryd.ntmps30
 go_wp2_with fail
 refine (index_visible.calls A0 _ ll vl ev _ HR.out HC.out HV.out.1).mono ?_
 rintro e W ⟨v, rfl, hR, hb⟩
 have HRO := Aside0.mk hR
 have HB := Aside0.mk hb
 clear hR hb
 obtain ⟨A, c, rfl⟩ := RN.slice HRO.out
 have hlc : vl.length ≤ c := (Kd.R_reads' HRO.out).2.1
 have HM := Aside0.mk (Kd.C_max (Kd.R_reads' HRO.out).2.2)
 have HN := Aside0.mk (show ¬ r3 = 0 → r1 = [] ∧ r2 = r3 from fun hr => by
  obtain ⟨h1, h2⟩ := HE.out.2 hr
  have hh := HH.out
  cases hb : b with
  | false => rw [hb] at hh h1; rw [if_neg (by decide)] at hh; cases hh; exact ⟨rfl, by rw [h1]; rfl⟩
  | true =>
   have ht := Ht.out
   rw [h2 hb, (HV.out.2.1 hb).1] at ht
   rw [hb] at hh h1
   rw [if_pos rfl, if_pos (of_decide_eq_true ht)] at hh
   cases hh
   exact ⟨rfl, by rw [h1]; rfl⟩)
 have HY := Aside0.mk (show r3 = 0 → r1 = ((vl.take a2.toNat).drop a1.toNat).map (·.f0) ∧ r2 = 0 ∧ vl.length ≤ 1000000 from fun hr => by
  obtain ⟨h1, h2⟩ := HE.out.1 hr
  have hh := HH.out
  have ht := Ht.out
  rw [h2, (HV.out.2.1 h1).1] at ht
  rw [h1, if_pos rfl, if_neg (of_decide_eq_false ht)] at hh
  rw [(HV.out.2.1 h1).1]
  cases hh
  exact ⟨rfl, rfl, visOf_le HL.out (Hb.out.trans h1)⟩)
 by_cases q1 : a1 < 0
 ·
  have b1 : decide (a1 < 0) = true := decide_eq_true q1
  obtain rfl : t = true := by rw [← Ht.out]; simp; omega
  clear q1
  go_wp2_with fail
  refine (index_when.calls true 3 n2 _ H2.out).mono ?_
  rintro e W2 ⟨rfl, hb⟩
  have HB := Aside0.mk (below_more HB.out hb.below)
  clear hb HRO
  go_wp2_with fail
  refine (index_first.calls 10 (some ⟨W2.heap.size, 0, none⟩) 2 [ev, n2] r3 _ (errs_C (zs := [ev, n2]) (blk_new W2 _) (by show 2 ≤ 1000000; omega)) (Nat.le_refl 2) H3.out).mono ?_
  rintro e W3 ⟨rfl, hb⟩
  have HB := Aside0.mk (below_more (below_alloc HB.out _) hb.below)
  clear hb
  have hr : ¬ r3 = 0 := fun e => by have := (HE.out.1 e).2; cases this
  obtain ⟨e1, e2⟩ := HN.out hr
  subst e1 e2
  have hr1 : (r2 != 0) = true := by simp [hr]
  clear hr
  go_wp2
  go_ret2
  exact ⟨_, rfl, Kd.R_nil _ _ _ _ _, HB.out⟩
 ·
  by_cases q2 : a2 < a1
  ·
   have b1 : decide (a1 < 0) = false := decide_eq_false q1
   have b2 : decide (a2 < a1) = true := decide_eq_true q2
   obtain rfl : t = true := by rw [← Ht.out]; simp; omega
   clear q1 q2
   go_wp2_with fail
   refine (index_when.calls true 3 n2 _ H2.out).mono ?_
   rintro e W2 ⟨rfl, hb⟩
   have HB := Aside0.mk (below_more HB.out hb.below)
   clear hb HRO
   go_wp2_with fail
   refine (index_first.calls 10 (some ⟨W2.heap.size, 0, none⟩) 2 [ev, n2] r3 _ (errs_C (zs := [ev, n2]) (blk_new W2 _) (by show 2 ≤ 1000000; omega)) (Nat.le_refl 2) H3.out).mono ?_
   rintro e W3 ⟨rfl, hb⟩
   have HB := Aside0.mk (below_more (below_alloc HB.out _) hb.below)
   clear hb
   have hr : ¬ r3 = 0 := fun e => by have := (HE.out.1 e).2; cases this
   obtain ⟨e1, e2⟩ := HN.out hr
   subst e1 e2
   have hr1 : (r2 != 0) = true := by simp [hr]
   clear hr
   go_wp2
   go_ret2
   exact ⟨_, rfl, Kd.R_nil _ _ _ _ _, HB.out⟩
  ·
   by_cases q3 : (vl.length : Int) < a2
   ·
    have b1 : decide (a1 < 0) = false := decide_eq_false q1
    have b2 : decide (a2 < a1) = false := decide_eq_false q2
    have b3 : decide (a2 > (vl.length : Int)) = true := decide_eq_true q3
    obtain rfl : t = true := by rw [← Ht.out]; simp; omega
    clear q1 q2 q3
    go_wp2_with fail
    refine (index_when.calls true 3 n2 _ H2.out).mono ?_
    rintro e W2 ⟨rfl, hb⟩
    have HB := Aside0.mk (below_more HB.out hb.below)
    clear hb HRO
    go_wp2_with fail
    refine (index_first.calls 10 (some ⟨W2.heap.size, 0, none⟩) 2 [ev, n2] r3 _ (errs_C (zs := [ev, n2]) (blk_new W2 _) (by show 2 ≤ 1000000; omega)) (Nat.le_refl 2) H3.out).mono ?_
    rintro e W3 ⟨rfl, hb⟩
    have HB := Aside0.mk (below_more (below_alloc HB.out _) hb.below)
    clear hb
    have hr : ¬ r3 = 0 := fun e => by have := (HE.out.1 e).2; cases this
    obtain ⟨e1, e2⟩ := HN.out hr
    subst e1 e2
    have hr1 : (r2 != 0) = true := by simp [hr]
    clear hr
    go_wp2
    go_ret2
    exact ⟨_, rfl, Kd.R_nil _ _ _ _ _, HB.out⟩
   ·
    have b1 : decide (a1 < 0) = false := decide_eq_false q1
    have b2 : decide (a2 < a1) = false := decide_eq_false q2
    have b3 : decide (a2 > (vl.length : Int)) = false := decide_eq_false q3
    obtain rfl : t = false := by rw [← Ht.out]; simp; omega
    have Q := Aside0.mk (show 0 ≤ a1 ∧ a1 ≤ a2 ∧ a2 ≤ vl.length by omega)
    clear q1 q2 q3
    go_wp2_with fail
    refine (index_when.calls false 3 n2 _ H2.out).mono ?_
    rintro e W2 ⟨rfl, hb⟩
    have HB := Aside0.mk (below_more HB.out hb.below)
    have HRO := Aside0.mk (own_more HRO.out hb.below)
    clear hb
    go_wp2_with fail
    refine (index_first.calls 10 (some ⟨W2.heap.size, 0, none⟩) 2 [ev, n2] r3 _ (errs_C (zs := [ev, n2]) (blk_new W2 _) (by show 2 ≤ 1000000; omega)) (Nat.le_refl 2) H3.out).mono ?_
    rintro e W3 ⟨rfl, hb⟩
    have HB := Aside0.mk (below_more (below_alloc HB.out _) hb.below)
    have HRO := Aside0.mk (own_more (own_more HRO.out (below_alloc (Below.refl _ W2) _)) hb.below)
    clear hb
    by_cases hr : r3 = 0
    rotate_left
    ·
     obtain ⟨e1, e2⟩ := HN.out hr
     subst e1 e2
     have hr1 : (r2 != 0) = true := by simp [hr]
     clear hr
     go_wp2
     go_ret2
     exact ⟨_, rfl, Kd.R_nil _ _ _ _ _, HB.out⟩
    ·
     have hr1 : (r3 != 0) = false := by simp [hr]
     have HYY := Aside0.mk (HY.out hr)
     obtain ⟨i0, hi0, _, hsz, _⟩ := info_parts infoN
     have hcut := cut_mid (P := Tryd.prog) 22 37 .i64 .i64 Tryd.underlying22 hi0 6 hsz A vl.length c a1 a2 Q.out.1 Q.out.2.1 Q.out.2.2 hlc
     have hry := Kd.C_mid (lo := a1.toNat) (hi := a2.toNat) (c := c) (Kd.R_reads' HRO.out).2.2 (by have := Q.out; omega) (by have := Q.out; omega) hlc
     obtain ⟨y, Hy⟩ : ∃ y, Aside0 ((vl.take a2.toNat).drop a1.toNat = y) := ⟨_, ⟨rfl⟩⟩
     obtain ⟨Ay, HAy⟩ : ∃ Ay, Aside0 ((if c = a1.toNat then A else (A : Option Addr).map (·.add (a1.toNat * 6))) = Ay) := ⟨_, ⟨rfl⟩⟩
     have hyl : a2.toNat - a1.toNat = y.length := by rw [← Hy.out, List.length_drop, List.length_take]; have := Q.out; omega
     rw [Hy.out] at hry
     replace hry : Kd.C k37 W3 Ay y.length y := by rw [← HAy.out]; exact hry
     have HRY := Aside0.mk hry
     rw [HAy.out, hyl] at hcut
     have HYL := Aside0.mk (show y.length ≤ 1000000 by have := HYY.out.2.2; have := Q.out; omega)
     have HYE := Aside0.mk (show r1 = y.map (·.f0) ∧ r2 = 0 by rw [← Hy.out]; exact ⟨HYY.out.1, HYY.out.2.1⟩)
     have hmy := Kd.C_max hry
     clear hry hr hi0 hsz hyl
     go_wp2
     go_loopw [10, 43] (fun v10 v43 wr => ∃ (j : Nat), v43 = .int .i64 j ∧ j ≤ y.length ∧ Aside0 (Kd.R k35 35 wr W3.heap.size (fun _ => True) v10 ((y.take j).map (·.f0))) ∧ Aside0 (Below W3.heap.size W3 wr)) (fun _ v43 _ => y.length - (intOf v43).toNat)
     case atStart => exact ⟨0, rfl, Nat.zero_le _, ⟨Kd.R_nil _ _ _ _ _⟩, ⟨Below.refl _ _⟩⟩
     case round =>
      obtain ⟨j, rfl, hjl, HO, HW⟩ := hrel
      by_cases hlt : j < y.length
      ·
       obtain ⟨x, hx⟩ : ∃ x, Aside0 (y[j]? = some x) := ⟨_, ⟨List.getElem?_eq_getElem hlt⟩⟩
       obtain ⟨ad, e, h0, h1, h2, h3, h4, h5⟩ := node_at HRY.out HW.out j x hx.out
       clear hcut
       subst e
       go_wp2_with (at_builtin; refine app_dots W3 rfl (.tmp 47) (.tmp 50) rfl _ ((y.take j).map (·.f0)) _ [x.f0] 1 1 rfl rfl rfl (Kd.R_below HO.out (below_alloc (below_alloc (Below.refl _ wr) _) _)) (lit_dotsC _ _ (by simp) [x.f0] _ rfl (Nat.le_of_ble_eq_true rfl)) (below_alloc (below_alloc HW.out _) _) (by rw [List.length_map, List.length_take]; have := HYL.out; omega) ?_; intro v1 w1 ho hb1)
       go_roundw
       case rel => exact ⟨j + 1, by go_num, by omega, ⟨by rw [List.take_add_one, hx.out, List.map_append]; exact ho⟩, ⟨hb1⟩⟩
       case measure => simp [intOf]; omega
      ·
       obtain rfl : j = y.length := by omega
       have HOR := HO.out
       rw [List.take_length] at HOR
       have HOR2 := Aside0.mk (Kd.R_lower HOR HB.out.size)
       obtain ⟨e1, e2⟩ := HYE.out
       rw [← e1] at HOR2
       subst e2
       clear HOR e1
       go_wp2
       go_ret2
       exact ⟨_, rfl, HOR2.out, below_more HB.out HW.out⟩
end Go.Proofs.YtjlpaagnajmogaaDoor.PWalk
end
