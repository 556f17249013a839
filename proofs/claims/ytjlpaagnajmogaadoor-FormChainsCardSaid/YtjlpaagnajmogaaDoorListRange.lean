/-
  A range over a function that gives the elements of a known list, in their order: the loop's body is told which element comes at which place, so what it keeps may be counted by the place alone.
-/
import Derived.RangeFuncNested
namespace Go.ListRange
open Go.RowKit
variable {F : Fence} {n : Nat} {P : Program} {α : Type}

/-- The iterator g calls yield with the elements of L, one after the other, until one round says false. -/
def Gives (F : Fence) (n : Nat) (P : Program) (g : Nat) (lb : Array Value) (encs : α → Array Value) (Kp : World → World → Prop) (L : List α) (w : World) : Prop :=
  ∀ (l : Nat) (J Jx : Nat → World → Prop) (W : World), Below w.heap.size w W → AbidesFrom W.heap.size J → AbidesFrom W.heap.size Jx →
    (∀ k x V, L[k]? = some x → J k V → YieldAt F (n - 1) P l (encs x) V fun e V' =>
      (e = .returned (.bool true) ∧ J (k + 1) V' ∧ Kp V V') ∨ (e = .returned (.bool false) ∧ Jx (k + 1) V')) →
    J 0 W → CallsIn F n P g (#[.func (.yield l) #[] #[]] ++ lb) W fun e V => (∃ v, e = .returned v) ∧ (J L.length V ∨ ∃ k, k ≤ L.length ∧ Jx k V)

/-- How a round may end: as it should, or by a jump out of the loop. -/
def Post (B : Nat) (Kp : World → World → Prop) (I : Nat → World → Prop) (Ix : Code → Nat → World → Prop) (k : Nat) (W : World) : Exit → Act → World → Prop
  | .normal, _, V => KeepsFrom B W V ∧ Kp W V ∧ I (k + 1) V
  | .ret, _, V => KeepsFrom B W V ∧ Ix .ret (k + 1) V
  | .exit id, _, V => KeepsFrom B W V ∧ Ix (.exit id) (k + 1) V
  | .goto t, _, V => KeepsFrom B W V ∧ Ix (.goto t) (k + 1) V
  | .panic _, _, _ => False
  | .outgrown, _, _ => False

/-- The two blocks of a range's own: its record, and the block for the rounds' deferred calls. -/
structure Book (d : Nat) (r : Loop) (W : World) : Prop where
  loop : W.heap[d + 1]? = some (.loop r)
  mark : W.heap[d]? = some (.deferred (some []))
theorem Book.lt {d : Nat} {r : Loop} {W : World} (h : Book d r W) : d + 1 < W.heap.size := (Array.getElem?_eq_some_iff.1 h.loop).1
theorem Book.keeps {d : Nat} {r : Loop} {W V : World} (h : Book d r W) (hk : KeepsFrom d W V) : Book d r V := ⟨hk.same _ _ (by omega) h.loop rfl, hk.same _ _ (Nat.le_refl _) h.mark rfl⟩
theorem Book.put {d : Nat} {r : Loop} {W : World} (h : Book d r W) (r' : Loop) : Book d r' (W.putObj (d + 1) (.loop r')) :=
  ⟨World.putObj_heap_same h.lt, (World.putObj_heap_other (by omega)).trans h.mark⟩
theorem Book.walked {d : Nat} {r : Loop} {W V : World} {row : Option Nat} (h : Book d r W) (hg : W.grownBy V row) (hr : ∀ i, row = some i → ∃ o : Obj, W.heap[i]? = some o ∧ o.isWalk = true) : Book d r V :=
  ⟨(grownBy_keeps hg hr h.loop rfl).trans h.loop, (grownBy_keeps hg hr h.mark rfl).trans h.mark⟩

theorem wpIn_range {g : Operand} {ps : Array Tmp} {assign body : Code} {Q : Exit → Act → World → Prop} {a : Act} {w : World}
    (hro : F.round = none) (h1 : 1 ≤ n) {gf : Nat} {lb : Array Value} (hg : a.eval g = .func (.func gf) #[] lb) (hFg : F.fn gf) (eg : ∀ args w, (callFunc gf args).run P w = .ok (.enter gf args) w)
    {encs : α → Array Value} {Kp : World → World → Prop} {L : List α} {w0 : World} (hseq : Gives F (n - 1) P gf lb encs Kp L w0)
    (hKt : ∀ {A B C : World}, Kp A B → Kp B C → Kp A C) (hKb : ∀ (W : World) (l : Nat) (o o' : Obj), w.heap.size ≤ l → W.heap[l]? = some o → o.isCells = false → o.isWalk = false → Kp W (W.putObj l o')) (hb0 : Below w0.heap.size w0 w) (hps : ∀ x, (encs x).size = ps.size)
    (I : Nat → World → Prop) (Ix : Code → Nat → World → Prop) (hI : OwnFrom w.heap.size I) (hIx : ∀ c, OwnFrom w.heap.size (Ix c)) (h0 : I 0 w) (Ax : α → Act → World → Prop) (hAx : ∀ x a', OwnFrom w.heap.size (fun (_ : Unit) W => Ax x a' W))
    (hassign : ∀ (l k : Nat) (x : α) (W : World) (K : Act → World → Prop), L[k]? = some x → I k W → (∀ a' V, KeepsFrom w.heap.size W V → Kp W V → I k V → Ax x a' V → K a' V) →
      assign.wpIn (F.inRound l) (n - 1 - 1) P (Exit.then K (fun _ _ _ => False)) { tmps := (ps.zip (encs x)).foldl (fun t (p, v) => t.setIfInBounds p v) a.tmps, defers := [] } W)
    (hbody : ∀ (l k : Nat) (x : α) (a' : Act) (W : World), L[k]? = some x → w.heap.size ≤ l → (∃ r, W.heap[l]? = some (.loop r)) → I k W → Ax x a' W → body.wpIn (F.inRound l) (n - 1 - 1) P (Post w.heap.size Kp I Ix k W) a' W)
    (hdone : ∀ (D : Nat) (W : World), w.heap.size ≤ D → I L.length W → W.heap[D]? = some (.deferred (some [])) → Q .normal { a with defers := { target := .collected D, args := #[] } :: a.defers } W)
    (hstop : ∀ (D : Nat) (c : Code) (k : Nat) (W : World), w.heap.size ≤ D → k ≤ L.length → Ix c k W → W.heap[D]? = some (.deferred (some [])) → c.wpIn F n P Q { a with defers := { target := .collected D, args := #[] } :: a.defers } W) :
    (Code.rangeFunc g ps assign body).wpIn F n P Q a w := by
  refine wpIn_rangeFunc ?_
  intro fn hfn
  rw [hro]
  obtain ⟨d, hd⟩ : ∃ d, d = w.heap.size := ⟨_, rfl⟩
  obtain ⟨R, hR⟩ : ∃ R : LoopState → Option Code → Loop, R = fun s j => { state := s, pending := j, fn, tmps := a.tmps, params := ps, assign, body, defers := d } := ⟨_, rfl⟩
  have hstart := run_enterLoop_outer (P := P) (w := w) fn a.tmps ps assign body
  have hB : Book d (R .ready none) ((w.alloc (.deferred (some []))).alloc (.loop (R .ready none))) := by
    rw [hd]
    constructor
    · have := World.alloc_heap_new (w.alloc (.deferred (some []))) (.loop (R .ready none)); rwa [World.size_alloc] at this
    · exact (Below.heap_alloc _ _ _ (by simp)).trans (World.alloc_heap_new w _)
  have hI1 : I 0 ((w.alloc (.deferred (some []))).alloc (.loop (R .ready none))) := hI.alloc _ (hI.alloc _ h0)
  have hb1 : Below w0.heap.size w0 ((w.alloc (.deferred (some []))).alloc (.loop (R .ready none))) := hb0.trans ((((Below.refl _ w).alloc (Nat.le_refl _) _).alloc (by simp) _).mono hb0.size)
  have hsz : d ≤ ((w.alloc (.deferred (some []))).alloc (.loop (R .ready none))).heap.size := by simp; omega
  have hR0 : Loop.mk .ready none fn a.tmps ps assign body w.heap.size = R .ready none := by rw [hR, hd]
  rw [hR0] at hstart
  generalize (w.alloc (.deferred (some []))).alloc (.loop (R .ready none)) = W1 at *
  subst hd
  have hcells : ∀ {A B : World} {row : Option Nat}, (∀ r, row = some r → W1.heap.size ≤ r ∧ ∃ o : Obj, A.heap[r]? = some o ∧ o.isWalk = true) → (∀ r, row = some r → w.heap.size ≤ r ∧ ∃ o : Obj, A.heap[r]? = some o ∧ o.isCells = false) :=
    fun hr r e => by obtain ⟨hB, o, ho, hw⟩ := hr r e; exact ⟨by omega, o, ho, Obj.not_cells_of_walk hw⟩
  refine ⟨w.heap.size + 1, [{ target := .collected w.heap.size, args := #[] }], W1, { target := .fn (.func gf) lb, args := #[.func (.yield (w.heap.size + 1)) #[] #[]] }, W1, gf, #[.func (.yield (w.heap.size + 1)) #[] #[]] ++ lb, W1, hstart, ?_, ?_, ?_, fun _ => h1, ?_⟩
  · simp only [resolve, hg]; simp [go_sem]
  · intro f' hf'; simp [Target.leads] at hf'; subst hf'; exact hFg
  · simp [invoke, go_sem, eg]
  have hend : ∀ (j : Option Code) (s : LoopState) (q : Option Code) (V : World), Book w.heap.size (R s q) V → (Instr.endRound (w.heap.size + 1) j).run P V = .ok (.bool j.isNone) (V.putObj (w.heap.size + 1) (.loop (R (if j.isNone then .ready else .done) j))) := by
    intro j s q V h
    have := run_endRound (P := P) j h.loop
    rw [hR] at this ⊢
    exact this
  have hshut : ∀ (s : LoopState) (j : Option Code) (V : World), s ≠ .busy → Book w.heap.size (R s j) V → (Instr.endLoop (w.heap.size + 1)).run P V = .ok j (V.putObj (w.heap.size + 1) (.loop (R .exhausted j))) := by
    intro s j V hs h
    have := run_endLoop (P := P) h.loop (by rw [hR]; exact hs)
    rw [hR] at this ⊢
    exact this
  refine (hseq (w.heap.size + 1) (fun k V => I k V ∧ Book w.heap.size (R .ready none) V) (fun k V => ∃ c, Ix c k V ∧ Book w.heap.size (R .done (some c)) V) W1 hb1
    (fun s A B row hs hg' hr => ⟨hI s A B row hs.1 hg' (hcells (B := B) hr), hs.2.walked hg' (fun r e => (hr r e).2)⟩)
    (fun s A B row hs hg' hr => hs.imp fun c hc => ⟨hIx c s A B row hc.1 hg' (hcells (B := B) hr), hc.2.walked hg' (fun r e => (hr r e).2)⟩)
    ?_ ⟨hI1, hB⟩).mono ?_
  · rintro k x W hx ⟨hi, hbk⟩
    have hy := run_yield (P := P) (args := encs x) hbk.loop (by rw [hR]; exact hps x)
    have hy' : (Instr.yield (w.heap.size + 1) (encs x)).run P W = .ok (.round (w.heap.size + 1) fn ((ps.zip (encs x)).foldl (fun t (p, v) => t.setIfInBounds p v) a.tmps) assign body) W := by rw [hy, hR]
    refine ⟨fn, _, assign, body, hy', roundIn_of_wpIn hfn (hassign _ k x W _ hx hi ?_)⟩
    intro a' V hkf hkp hi2 hax
    have hbV := hbk.keeps hkf
    have hbusy : (Instr.beginRound (w.heap.size + 1)).run P V = .ok () (V.putObj (w.heap.size + 1) (.loop (R .busy none))) := by
      have := run_beginRound (P := P) hbV.loop (by rw [hR])
      rw [this, hR]
    refine ⟨_, hbusy, ?_⟩
    have hb2 := hbV.put (R .busy none)
    have hk2 : Kp V (V.putObj (w.heap.size + 1) (.loop (R .busy none))) := hKb _ _ _ _ (by omega) hbV.loop rfl rfl
    refine wpIn_mono (hbody _ k x a' _ hx (by omega) ⟨_, hb2.loop⟩ (hI.putObj _ hi2 (by omega) hbV.loop rfl) ((hAx x a').putObj (s := ()) _ hax (by omega) hbV.loop rfl)) ?_
    have hout : ∀ (c : Code) (V3 : World), KeepsFrom w.heap.size (V.putObj (w.heap.size + 1) (.loop (R .busy none))) V3 → Ix c (k + 1) V3 →
        (Instr.endRound (w.heap.size + 1) (some c)).run P V3 = .ok (.bool false) (V3.putObj (w.heap.size + 1) (.loop (R .done (some c)))) ∧ ∃ c', Ix c' (k + 1) (V3.putObj (w.heap.size + 1) (.loop (R .done (some c)))) ∧ Book w.heap.size (R .done (some c')) (V3.putObj (w.heap.size + 1) (.loop (R .done (some c)))) := by
      intro c V3 h3 hx3
      have hb3 := hb2.keeps h3
      exact ⟨hend (some c) _ _ V3 hb3, c, (hIx c).putObj _ hx3 (by omega) hb3.loop rfl, hb3.put _⟩
    rintro e a3 V3 hp
    cases e with
    | normal =>
      obtain ⟨h3, hp3, hi3⟩ := hp
      have hb3 := hb2.keeps h3
      exact ⟨_, _, hend none _ _ V3 hb3, .inl ⟨rfl, ⟨hI.putObj _ hi3 (by omega) hb3.loop rfl, hb3.put _⟩, hKt hkp (hKt (hKt hk2 hp3) (hKb _ _ _ _ (by omega) hb3.loop rfl rfl))⟩⟩
    | ret => exact ⟨_, _, (hout .ret V3 hp.1 hp.2).1, .inr ⟨rfl, (hout .ret V3 hp.1 hp.2).2⟩⟩
    | exit id => exact ⟨_, _, (hout (.exit id) V3 hp.1 hp.2).1, .inr ⟨rfl, (hout (.exit id) V3 hp.1 hp.2).2⟩⟩
    | goto t => exact ⟨_, _, (hout (.goto t) V3 hp.1 hp.2).1, .inr ⟨rfl, (hout (.goto t) V3 hp.1 hp.2).2⟩⟩
    | panic ch => exact hp.elim
    | outgrown => exact hp.elim
  · rintro e V ⟨⟨v, rfl⟩, (⟨hi, hbk⟩ | ⟨k, hk, c, hi, hbk⟩)⟩
    · exact ⟨none, _, hshut .ready none V (by simp) hbk, hdone _ _ (Nat.le_refl _) (hI.putObj _ hi (by omega) hbk.loop rfl) ((World.putObj_heap_other (by omega)).trans hbk.mark)⟩
    · exact ⟨some c, _, hshut .done (some c) V (by simp) hbk, hstop _ c k _ (Nat.le_refl _) hk ((hIx c).putObj _ hi (by omega) hbk.loop rfl) ((World.putObj_heap_other (by omega)).trans hbk.mark)⟩

end Go.ListRange
