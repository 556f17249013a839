/-
  Of inverts At, Before of a visible node is its index, Text has as many characters as Len says and those are Runes, and Dots of neighbouring parts, one after the other, is that of both; for every list of nodes and number. Part 8 of 8.
-/
import Derived.Test.YtjlpaagnajmogaaDoorVG
import Derived.Lib.TrimUEq
import Derived.Lib.ValidLaws
import Derived.Laws.Cover4
import Derived.Laws.RangeAny
import Derived.Maps.RangeRun
import Derived.Maps.RangeWalk
import Derived.Shelf.Unicode.ValidAny
import Derived.Test.YtjlpaagnajmogaaDoorRows
import Derived.Test.YtjlpaagnajmogaaDoorTie
import Derived.Test.YtjlpaagnajmogaaDoorCards
import Derived.WalkKit
import Derived.ProofKit
import Derived.OpenShut
import Derived.ShutString
import Derived.ChangeOld
import Derived.Below
import Derived.SizedLaws
import Derived.Deep.DeepHandedRow
import Derived.Deep.Slices
import Derived.Lib.SmallJoins
import Derived.Lib.LaidU8T
import Derived.Lib.LaidIn
import Derived.PinnedBridge
import Derived.Lay
import Derived.SevenTiedAt
section
namespace Go.Utf8Enc
open Go.Lib
def encL (r : Int) : List UInt8 := (Utf8.encode r).data.toList
def okR (r : Int) : Prop := (0 ≤ r ∧ r < 55296) ∨ (57343 < r ∧ r ≤ 1114111)
theorem byte_nat {n : Nat} (h : n < 256) : (UInt8.ofNat n).toNat = n := by
 rw [UInt8.toNat_ofNat']
 exact Nat.mod_eq_of_lt h
theorem getD_at (p e q : List UInt8) (k i : Nat) (h : k = p.length + i) (hi : i < e.length) : (p ++ (e ++ q)).getD k 0 = e[i] := by
 subst h
 have h : ¬ p.length + i < p.length := by omega
 simp [List.getD, List.getElem?_append, hi, h]
theorem decode_enc {s : ByteArray} {p q : List UInt8} {r : Int} (hr : okR r) (h : s.data.toList = p ++ (encL r ++ q)) : Utf8.decode s p.length = (r.toNat, (encL r).length) ∧ 1 ≤ (encL r).length ∧ ((encL r).length = 1 → r.toNat < 128) := by
 have hv : Utf8.valid r = true := by
  unfold Utf8.valid okR at *
  simp only [Bool.or_eq_true, Bool.and_eq_true, decide_eq_true_eq]
  omega
 have hc : r.toNat ≤ 1114111 ∧ (r.toNat < 55296 ∨ 57344 ≤ r.toNat) := by unfold okR at hr; omega
 rw [decode_N, h]
 generalize hcc : r.toNat = c at *
 have he : encL r = if c < 128 then [UInt8.ofNat c] else if c < 2048 then [UInt8.ofNat (192 + c / 64), UInt8.ofNat (128 + c % 64)] else if c < 65536 then [UInt8.ofNat (224 + c / 4096), UInt8.ofNat (128 + c / 64 % 64), UInt8.ofNat (128 + c % 64)] else [UInt8.ofNat (240 + c / 262144), UInt8.ofNat (128 + c / 4096 % 64), UInt8.ofNat (128 + c / 64 % 64), UInt8.ofNat (128 + c % 64)] := by
  unfold encL Utf8.encode
  rw [hv, hcc]
  simp only [if_true]
  repeat' split
  all_goals rfl
 rw [he]
 by_cases h1 : c < 128
 ·
  rw [if_pos h1]
  refine ⟨?_, by simp, fun _ => h1⟩
  rw [getD_at p _ q _ 0 (by omega) (by simp)]
  simp only [List.getElem_cons_zero]
  rw [byte_nat (by omega)]
  unfold decodeN
  rw [if_pos h1]; rfl
 ·
  rw [if_neg h1]
  by_cases h2 : c < 2048
  ·
   rw [if_pos h2]
   refine ⟨?_, by simp, fun h => by simp at h⟩
   rw [getD_at p _ q _ 0 (by omega) (by simp), getD_at p _ q (p.length + 1) 1 (by omega) (by simp)]
   simp only [List.getElem_cons_zero, List.getElem_cons_succ]
   rw [byte_nat (by omega), byte_nat (by omega)]
   generalize (p ++ _).getD (p.length + 2) 0 = x2
   generalize (p ++ _).getD (p.length + 3) 0 = x3
   have hn : 1 < (p ++ ([UInt8.ofNat (192 + c / 64), UInt8.ofNat (128 + c % 64)] ++ q)).length - p.length := by simp
   generalize (p ++ ([UInt8.ofNat (192 + c / 64), UInt8.ofNat (128 + c % 64)] ++ q)).length - p.length = n at hn
   have e1 : (192 + c / 64) % 32 * 64 + (128 + c % 64) % 64 = c := by omega
   unfold decodeN
   rw [if_neg (by omega), if_pos ⟨by omega, hn, by omega⟩, e1, if_pos (by omega)]
   rfl
  ·
   rw [if_neg h2]
   by_cases h3 : c < 65536
   ·
    rw [if_pos h3]
    refine ⟨?_, by simp, fun h => by simp at h⟩
    rw [getD_at p _ q _ 0 (by omega) (by simp), getD_at p _ q (p.length + 1) 1 (by omega) (by simp), getD_at p _ q (p.length + 2) 2 (by omega) (by simp)]
    simp only [List.getElem_cons_zero, List.getElem_cons_succ]
    rw [byte_nat (by omega), byte_nat (by omega), byte_nat (by omega)]
    generalize (p ++ _).getD (p.length + 3) 0 = x3
    have hn : 2 < (p ++ ([UInt8.ofNat (224 + c / 4096), UInt8.ofNat (128 + c / 64 % 64), UInt8.ofNat (128 + c % 64)] ++ q)).length - p.length := by simp
    generalize (p ++ ([UInt8.ofNat (224 + c / 4096), UInt8.ofNat (128 + c / 64 % 64), UInt8.ofNat (128 + c % 64)] ++ q)).length - p.length = n at hn
    have e1 : (224 + c / 4096) % 16 * 4096 + (128 + c / 64 % 64) % 64 * 64 + (128 + c % 64) % 64 = c := by omega
    unfold decodeN
    rw [if_neg (by omega), if_neg (by omega), if_pos ⟨by omega, ⟨by omega, by omega⟩, by omega, by omega⟩, e1, if_pos (by omega)]
    rfl
   ·
    rw [if_neg h3]
    refine ⟨?_, by simp, fun h => by simp at h⟩
    rw [getD_at p _ q _ 0 (by omega) (by simp), getD_at p _ q (p.length + 1) 1 (by omega) (by simp), getD_at p _ q (p.length + 2) 2 (by omega) (by simp), getD_at p _ q (p.length + 3) 3 (by omega) (by simp)]
    simp only [List.getElem_cons_zero, List.getElem_cons_succ]
    rw [byte_nat (by omega), byte_nat (by omega), byte_nat (by omega), byte_nat (by omega)]
    have hn : 3 < (p ++ ([UInt8.ofNat (240 + c / 262144), UInt8.ofNat (128 + c / 4096 % 64), UInt8.ofNat (128 + c / 64 % 64), UInt8.ofNat (128 + c % 64)] ++ q)).length - p.length := by simp
    generalize (p ++ ([UInt8.ofNat (240 + c / 262144), UInt8.ofNat (128 + c / 4096 % 64), UInt8.ofNat (128 + c / 64 % 64), UInt8.ofNat (128 + c % 64)] ++ q)).length - p.length = n at hn
    have e1 : (240 + c / 262144) % 8 * 262144 + (128 + c / 4096 % 64) % 64 * 4096 + (128 + c / 64 % 64) % 64 * 64 + (128 + c % 64) % 64 = c := by omega
    unfold decodeN
    rw [if_neg (by omega), if_neg (by omega), if_neg (by omega), if_pos ⟨by omega, ⟨by omega, by omega⟩, ⟨by omega, by omega⟩, by omega, by omega⟩, e1, if_pos (by omega)]
    rfl
/-- The bytes of runes. -/
def encAll (l : List Int) : List UInt8 := l.flatMap encL
theorem runes_data (l : List Int) : (runesBytes l).data.toList = encAll l := by
 have h : ∀ (l : List Int) (a : ByteArray), (l.foldl (fun r n => r ++ Utf8.encode n) a).data.toList = a.data.toList ++ encAll l := by
  intro l
  induction l with
  | nil => intro a; simp [encAll]
  | cons r l ih =>
   intro a
   rw [List.foldl_cons, ih]
   simp [encAll, encL, ByteArray.data_append]
 exact (h l ByteArray.empty).trans (by simp)
theorem encAll_cons (r : Int) (l : List Int) : encAll (r :: l) = encL r ++ encAll l := rfl
theorem encAll_append (a b : List Int) : encAll (a ++ b) = encAll a ++ encAll b := by simp [encAll]
/-- Runes that may be in a text: their bytes are good. -/
theorem valid_runes : ∀ {l : List Int}, (∀ r ∈ l, okR r) → validD (encAll l) = true
 | [], _ => rfl
 | r :: l, h => by
  have hr := h r (List.mem_cons_self ..)
  have hd := decode_enc (s := ⟨(encAll (r :: l)).toArray⟩) (p := []) (q := encAll l) hr (by simp [encAll_cons])
  have hne : encAll (r :: l) ≠ [] := by
   intro e
   have h1 := congrArg List.length e
   rw [encAll_cons, List.length_append] at h1
   have h2 := hd.2.1
   simp at h1
   rw [h1.1] at h2
   simp at h2
  rw [validD_step _ hne]
  have e1 : decodeL (encAll (r :: l)) = (r.toNat, (encL r).length) := hd.1
  rw [e1, if_neg (by
   rintro ⟨h1, h2⟩
   have := hd.2.2 h2
   have h1' : r.toNat = 65533 := h1
   omega), encAll_cons, List.drop_left']
  ·
   exact valid_runes fun x hx => h x (List.mem_cons_of_mem _ hx)
  ·
   rfl
/-- Where the rune with an index begins. -/
def posR (l : List Int) (k : Nat) : Nat := (encAll (l.take k)).length
theorem step_at {l : List Int} (h : ∀ r ∈ l, okR r) {k : Nat} {r : Int} (hk : l[k]? = some r) : Utf8.decode (runesBytes l) (posR l k) = (r.toNat, posR l (k + 1) - posR l k) ∧ posR l k < posR l (k + 1) ∧ posR l k < (runesBytes l).size := by
 obtain ⟨hlt, he⟩ := List.getElem?_eq_some_iff.1 hk
 have hr : okR r := h r (by rw [← he]; exact List.getElem_mem hlt)
 have hs : l = l.take k ++ r :: l.drop (k + 1) := by rw [← he, ← List.drop_eq_getElem_cons hlt, List.take_append_drop]
 have hd : (runesBytes l).data.toList = encAll (l.take k) ++ (encL r ++ encAll (l.drop (k + 1))) := by
  rw [runes_data]
  conv => lhs; rw [hs]
  rw [encAll_append, encAll_cons]
 have h1 := decode_enc hr hd
 have h2 : posR l (k + 1) = posR l k + (encL r).length := by
  unfold posR
  rw [List.take_add_one, hk]
  simp only [Option.toList]
  rw [encAll_append, List.length_append, encAll_cons, List.length_append]
  simp [encAll]
 have h3 : (runesBytes l).size = (encAll (l.take k)).length + ((encL r).length + (encAll (l.drop (k + 1))).length) := by
  have := congrArg List.length hd
  rw [List.length_append, List.length_append] at this
  rw [← this, Array.length_toList]
  rfl
 refine ⟨?_, by omega, by rw [h3]; show (encAll (l.take k)).length < _; omega⟩
 rw [h2, Nat.add_sub_cancel_left]
 exact h1.1
theorem posR_end (l : List Int) : posR l l.length = (runesBytes l).size := by
 have := congrArg List.length (runes_data l)
 unfold posR
 rw [List.take_of_length_le (Nat.le_refl _), ← this, Array.length_toList]
 rfl
end Go.Utf8Enc
end
section
namespace Go.StrLoop
open Go.Instr
open Go.ChangeMaps
open Go.MapKept (heap_set)
set_option linter.unusedSimpArgs false
variable {P : Program} {w : World} {r pos : Nat} {s : ByteArray}
theorem run_next_str (hr : w.heap[r]? = some (.stringIter s pos)) (ty : TypeId) (h : pos < s.size) :
  (Instr.next (.pointer (some ⟨r, 0, none⟩)) true ty).run P w = .ok (.tuple #[.bool true, .int .i64 pos, .int .i32 (Utf8.decode s pos).1]) (setBlock w r (.stringIter s (pos + (Utf8.decode s pos).2))) := by
 have hs : ∀ o', (setObj r o').run P w = .ok () (setBlock w r o') := fun o' => by simp [setObj, Sem.run, hr, setBlock]
 simp only [Instr.next, getObj, Sem.run_bind, Sem.run, hr, Result.andThen, h, if_true, hs]
 simp [goInt]
theorem run_next_over (hr : w.heap[r]? = some (.stringIter s pos)) (ty : TypeId) (h : ¬ pos < s.size) :
  (Instr.next (.pointer (some ⟨r, 0, none⟩)) true ty).run P w = .ok (.tuple #[.bool false]) w := by
 simp [Instr.next, getObj, Sem.run, hr, h]
section
variable {ops : Array Oper} {rest : List Oper} {o : Oper} {a : Act} {Q : Exit → Act → World → Prop}
/-- 'range s' as an operation of a walk. -/
theorem wpList_range (hg : o.guard = none) (x : Operand) (T : TypeId) (hop : o.op = Op.range T x) (hT : P.underlying T = some .string) (hx : a.eval x = .string s)
  (hK : ∀ w', w'.heap[w.heap.size]? = some (.stringIter s 0) → w.grownBy w' none → w'.heap.size = w.heap.size + 1 → wpList P ops Q rest (a.put o.dst (.pointer (some ⟨w.heap.size, 0, none⟩))) w') :
  wpList P ops Q (o :: rest) a w := by
 refine wpList_plain hg fun K' hK' => ?_
 unfold Oper.wp
 simp [execOp, hop, hx, run_range_string w T s hT, Result.andThen]
 exact hK' _ _ (hK _ (World.iter_heap w s 0) (World.grownBy_alloc w _ none) (by simp [World.iter]))
/-- The step as an operation of a walk. -/
theorem wpList_next (hg : o.guard = none) (it : Operand) (hop : o.op = Op.next it true) (hit : a.eval it = .pointer (some ⟨r, 0, none⟩)) (hr : w.heap[r]? = some (.stringIter s pos))
  (hDone : ¬ pos < s.size → wpList P ops Q rest (a.put o.dst (.tuple #[.bool false])) w)
  (hMore : pos < s.size → ∀ w', w'.heap[r]? = some (.stringIter s (pos + (Utf8.decode s pos).2)) → w.grownBy w' (some r) → w'.heap.size = w.heap.size → wpList P ops Q rest (a.put o.dst (.tuple #[.bool true, .int .i64 pos, .int .i32 (Utf8.decode s pos).1])) w') :
  wpList P ops Q (o :: rest) a w := by
 refine wpList_plain hg fun K' hK' => ?_
 unfold Oper.wp
 by_cases h : pos < s.size
 ·
  simp [execOp, hop, hit, run_next_str hr o.type h, Result.andThen]
  have hset := heap_set (o' := .stringIter s (pos + (Utf8.decode s pos).2)) hr
  exact hK' _ _ (hMore h _ hset.1 ⟨rfl, rfl, rfl, by simp [setBlock], fun i _ hi => hset.2 i (fun e1 => hi (by rw [e1]))⟩ (by simp [setBlock]))
 ·
  simp [execOp, hop, hit, run_next_over hr o.type h, Result.andThen]
  exact hK' _ _ (hDone h)
end
end Go.StrLoop
end
section
namespace Go.Proofs.YtjlpaagnajmogaaDoor.PWalk
open Go.RowKit Go.Proofs.YtjlpaagnajmogaaDoorW.PrintWords Go.Proofs.YtjlpaagnajmogaaDoorW.PrintLast Go.Proofs.YtjlpaagnajmogaaDoorW.PrintMore
set_option linter.unusedVariables false
set_option linter.unusedSimpArgs false
open Go.Shelf
attribute [local go_sem] Oper.semAt_some
abbrev RI (W : World) (base : Nat) (u : Value) (xs : List Int) : Prop := Kd.R (Kd.int .i32) 21 W base (fun _ => True) u xs
theorem op_append_int {o : Oper} {a : Act} {K : Act → World → Prop} {Q : Exit → Act → World → Prop} {W : World} (base : Nat) (hgd : o.guard = none) (s x : Operand)
  (ho : o.op = .call { callee := .builtin .append, args := #[s, x], argTypes := #[50, 50] }) (v : Value) (xs ys : List Int) (A : Option Addr) (m c : Nat) (hs : a.eval s = v) (hx : a.eval x = .slice A m c)
  (hr : RI W base v xs) (hc : Kd.C (Kd.int .i32) W A m ys) (hb : base ≤ W.heap.size) (hl : xs.length + m ≤ 1000000)
  (h : ∀ v1 w1, RI w1 base v1 (xs ++ ys) → W.grownBy w1 v.ownBlock → (v1.ownBlock = v.ownBlock ∨ ∃ b, v1.ownBlock = some b ∧ W.heap.size ≤ b) → K (a.put o.dst v1) w1) : o.wp Tryd.prog a W K Q := by
 have hw : Region.wanted o (yielded #[] a.tmps) = true := by simp [Region.wanted, hgd]
 have := Kd.R_append_rows_step (P := Tryd.prog) (ops := #[]) (Q := Q) (Kc := K) (Kd.int .i32) (w0 := W) base hw s x 50 21 (.int .i32 0) 4 ho Tryd.underlying50 info21 rfl (by decide) (by decide) v xs ys A m c (fun _ => True) (fun _ => False) hs hx hr hc (fun _ _ h => h) (fun _ hk => hk.elim) (fun _ _ => trivial) (Below.refl _ _) hb (by omega)
  (fun v1 w1 h1 _ h3 h4 => h v1 w1 h1 h3 h4)
 rwa [if_pos hw] at this
theorem RI_base {W : World} {base : Nat} {v : Value} {l : List Int} (h : RI W base v l) : ∀ k, v.ownBlock = some k → base ≤ k := fun k e => by obtain ⟨_, inner, hown, _⟩ := h; exact (hown.lt k e).1
theorem RI_lt {W : World} {base : Nat} {v : Value} {l : List Int} (h : RI W base v l) : ∀ k, v.ownBlock = some k → k < W.heap.size := fun k e => by obtain ⟨_, inner, hown, _⟩ := h; exact (hown.lt k e).2
theorem RI_keep {W V : World} {base : Nat} {u : Value} {xs : List Int} (h : RI W base u xs) (hk : ∀ g, u.ownBlock = some g → V.heap[g]? = W.heap[g]?) : RI V base u xs := by
 obtain ⟨h1, inner, ho, hr⟩ := h
 exact ⟨h1, inner, ownsRow_keep ho hk, hr⟩
theorem boxI_C {W : World} {g : Nat} {r : Int} (h : W.heap[g]? = some (.cells #[.int .i32 r] 21 (0, 0))) : Kd.C (Kd.int .i32) W (some ⟨g, 0, none⟩) 1 [r] := by
 refine ⟨rfl, by simp, fun _ => ⟨_, rfl, fun i x hi => ⟨[.int .i32 x], rfl, rfl, fun j u hu => ?_⟩⟩⟩
 rcases i with _ | i
 ·
  rcases j with _ | j
  ·
   simp only [List.getElem?_cons_zero, Option.some.injEq] at hi hu; subst hi hu
   exact (blk_cell h 0).trans rfl
  ·
   simp at hu
 ·
  simp at hi
theorem app_rune {ops : Array Oper} {Q : Exit → Act → World → Prop} {o : Oper} {rest : List Oper} {a : Act} {W : World} (base : Nat) (hgd : o.guard = none) (s x : Operand)
  (ho : o.op = .call { callee := .builtin .append, args := #[s, x], argTypes := #[50, 50] }) (v : Value) (xs : List Int) (r : Int) (g : Nat) (hs : a.eval s = v) (hx : a.eval x = .slice (some ⟨g, 0, none⟩) 1 1)
  (hr : RI W base v xs) (hc : W.heap[g]? = some (.cells #[.int .i32 r] 21 (0, 0))) (hb : base ≤ W.heap.size) (hl : xs.length + 1 ≤ 1000000)
  (h : ∀ v1 w1, RI w1 base v1 (xs ++ [r]) → W.grownBy w1 v.ownBlock → wpList Tryd.prog ops Q rest (a.put o.dst v1) w1) : wpList Tryd.prog ops Q (o :: rest) a W :=
 wpList_plain hgd fun K hK => op_append_int base hgd s x ho v xs [r] _ 1 1 hs hx hr (boxI_C hc) hb hl fun v1 w1 h1 h2 _ => hK _ _ (h v1 w1 h1 h2)
theorem okR_of {r : Int} (h : runeOk r = true) : Utf8Enc.okR r := by
 unfold runeOk at h
 rw [decide_eq_true_eq] at h
 exact h.2
theorem iter_at {w : World} {r p : Nat} {s : ByteArray} (h : w.heap[r]? = some (.stringIter s p)) : w.iterPos r = p := by
 unfold World.iterPos
 rw [h]
abbrev Tabs (w : World) : Prop := Lib.Utf8Tabs (Tryd.laysValid_ren.g 3) (Tryd.laysValid_ren.g 4) w
set_option maxHeartbeats 1000000 in
set_option maxRecDepth 100000 in
theorem Decode_call (rs : List Int) (hok : ∀ r ∈ rs, runeOk r = true) (hl : rs.length < 1000000) (w : World) (hT : Tabs w) :
  Calls Tryd.prog 55 #[.string (runesBytes rs)] w fun e w' => ∃ v : Value, e = .returned (.tuple #[v, .int .i64 0]) ∧ RI w' w.heap.size v rs ∧ Below w.heap.size w w' := by
 have HOKR : Aside0 (∀ r ∈ rs, Utf8Enc.okR r) := ⟨fun r hr => okR_of (hok r hr)⟩
 have HOK := Aside0.mk hok
 have hsz : (runesBytes rs).size ≤ 4000000 := Nat.le_trans (runesBytes_size_le rs) (by omega)
 have hv : Calls Tryd.prog 78 #[.string (runesBytes rs)] w fun e w' => e = .returned (.bool true) ∧ Below w.heap.size w w' := by
  have := Any.utf8_ValidString Tryd.laysValid (runesBytes rs) w (by omega) hT
  rwa [Utf8Enc.runes_data, Utf8Enc.valid_runes HOKR.out] at this
 have HVS := Aside0.mk hv
 have HLR := Aside0.mk hl
 obtain ⟨s, HS⟩ : ∃ s, Aside0 (runesBytes rs = s) := ⟨_, ⟨rfl⟩⟩
 obtain ⟨n, Hn⟩ : ∃ n, Aside0 (rs.length = n) := ⟨_, ⟨rfl⟩⟩
 rw [HS.out] at HVS ⊢
 have HSTEP : Aside0 (∀ k r, rs[k]? = some r → Utf8.decode s (Utf8Enc.posR rs k) = (r.toNat, Utf8Enc.posR rs (k + 1) - Utf8Enc.posR rs k) ∧ Utf8Enc.posR rs k < Utf8Enc.posR rs (k + 1) ∧ Utf8Enc.posR rs k < s.size) := ⟨fun k r hk => by rw [← HS.out]; exact Utf8Enc.step_at HOKR.out hk⟩
 have HEND : Aside0 (Utf8Enc.posR rs n = s.size) := ⟨by rw [← HS.out, ← Hn.out]; exact Utf8Enc.posR_end rs⟩
 clear hok hl hsz hv hT
 go_enter Tryd.func55, Tryd.ntmps55
 go_wp2_with fail
 refine HVS.out.mono ?_
 rintro e V ⟨rfl, hb⟩
 have HB := Aside0.mk hb
 clear hb HVS
 go_wp2_with (at_range; refine StrLoop.wpList_range rfl _ _ rfl Tryd.underlying9 rfl ?_; intro V2 hit0 hg0 hs0)
 obtain ⟨R0, HR0⟩ : ∃ R0, Aside0 (V.heap.size = R0) := ⟨_, ⟨rfl⟩⟩
 have HWR := Aside0.mk (show w.heap.size ≤ R0 by rw [← HR0.out]; exact HB.out.size)
 rw [HR0.out] at hit0 hs0 ⊢
 have HIT := Aside0.mk hit0
 have HB2 := Aside0.mk (grown_on hg0 HB.out (fun k e => by cases e))
 clear hit0 hg0 hs0
 go_frame
 go_loopw [4] (fun v wr => ∃ k : Nat, k ≤ n ∧ Aside0 (wr.heap[R0]? = some (.stringIter s (Utf8Enc.posR rs k))) ∧ Aside0 (RI wr (R0 + 1) v (rs.take k)) ∧ Aside0 (Below w.heap.size w wr)) (fun _ wr => s.size - wr.iterPos R0)
 case atStart => exact ⟨0, Nat.zero_le _, HIT, ⟨Kd.R_nil _ _ _ _ _⟩, HB2⟩
 case round =>
  obtain ⟨k, hk, HIT, HU, HW⟩ := hrel
  go_wp2_with (at_next; refine StrLoop.wpList_next rfl _ rfl rfl HIT.out ?_ ?_)
  ·
   intro hend
   have hkn : k = n := by
    rcases Nat.lt_or_ge k n with h | h
    ·
     exact absurd (HSTEP.out k _ (List.getElem?_eq_getElem (by rw [Hn.out]; exact h))).2.2 (Nat.not_lt.2 hend)
    ·
     omega
   have HALL := Aside0.mk (show rs.take k = rs from List.take_of_length_le (by rw [Hn.out]; omega))
   rw [HALL.out] at HU
   have HU2 := Aside0.mk (Kd.R_lower HU.out (show w.heap.size ≤ R0 + 1 by have := HWR.out; omega))
   clear hend hkn HU
   go_wp2
   go_ret2
   exact ⟨_, rfl, HU2.out, HW.out⟩
  ·
   intro hlt V3 hit3 hg3 hs3
   have hkn : k < n := by
    rcases Nat.lt_or_ge k n with h | h
    ·
     exact h
    ·
     exfalso
     have : k = n := by omega
     rw [this, HEND.out] at hlt
     exact absurd hlt (Nat.lt_irrefl _)
   obtain ⟨r, hr⟩ : ∃ r, Aside0 (rs[k]? = some r) := ⟨_, ⟨List.getElem?_eq_getElem (by rw [Hn.out]; exact hkn)⟩⟩
   obtain ⟨hd1, hd2, hd3⟩ := HSTEP.out k r hr.out
   have hrm : r ∈ rs := List.mem_of_getElem? hr.out
   have hrn : ((r.toNat : Nat) : Int) = r := by have := HOKR.out r hrm; unfold Utf8Enc.okR at this; omega
   rw [hd1] at hit3 ⊢
   rw [show ((r.toNat, Utf8Enc.posR rs (k + 1) - Utf8Enc.posR rs k).1 : Int) = r from hrn]
   have HIT3 : Aside0 (V3.heap[R0]? = some (.stringIter s (Utf8Enc.posR rs (k + 1)))) := ⟨by rw [hit3]; show some (Obj.stringIter s (Utf8Enc.posR rs k + (Utf8Enc.posR rs (k + 1) - Utf8Enc.posR rs k))) = _; congr 2; omega⟩
   have HRO := Aside0.mk (HOK.out r hrm)
   have HLT := Aside0.mk (And.intro hd2 hd3)
   have HLK := Aside0.mk (blk_lt HIT.out)
   have HU3 : Aside0 (RI V3 (R0 + 1) u4 (rs.take k)) := ⟨RI_keep HU.out (fun g hg => hg3.block g (RI_lt HU.out g hg) (fun e => by have := Option.some.inj e; have := RI_base HU.out g hg; omega))⟩
   have HW3 := Aside0.mk (grown_on hg3 HW.out (fun j e => by have := Option.some.inj e; have := HWR.out; omega))
   have HMS := Aside0.mk (iter_at HIT.out)
   clear hd1 hd2 hd3 hrn hit3 hg3 hs3 hrm hlt HU HW HIT
   go_wp2_with fail
   refine (runes_Valid.calls 10 r (runeOk r) _ (runesValid_is 9 r)).mono ?_
   rintro e V4 ⟨rfl, hdr⟩
   have hb := hdr.below
   have HIT4 := Aside0.mk (blk_keep HIT3.out hb)
   have HU4 := Aside0.mk (Kd.R_below HU3.out hb)
   have HW4 := Aside0.mk (below_more HW3.out hb)
   rw [HRO.out]
   clear hdr hb HIT3 HU3 HW3
   have HBX := Aside0.mk (blk_new V4 (.cells #[.int .i32 r] 21 (0, 0)))
   have HB5 := Aside0.mk (below_alloc (Below.refl _ V4) (.cells #[.int .i32 r] 21 (0, 0)))
   have HU5 := Aside0.mk (Kd.R_below HU4.out HB5.out)
   have HLN : Aside0 ((rs.take k).length + 1 ≤ 1000000) := ⟨by have := HLR.out; rw [List.length_take]; omega⟩
   have HBS : Aside0 (R0 + 1 ≤ (V4.alloc (.cells #[.int .i32 r] 21 (0, 0))).heap.size) := ⟨by have h1 := blk_lt HIT4.out; have h2 := HB5.out.size; omega⟩
   go_wp2_with (at_builtin; refine app_rune (R0 + 1) rfl (.tmp 18) (.tmp 20) rfl u4 (rs.take k) r V4.heap.size rfl rfl HU5.out HBX.out HBS.out HLN.out ?_; intro u' V6 hR6 hg6)
   have HR6 : Aside0 (RI V6 (R0 + 1) u' (rs.take (k + 1))) := ⟨by rw [List.take_add_one, hr.out]; exact hR6⟩
   have HIT6 : Aside0 (V6.heap[R0]? = some (.stringIter s (Utf8Enc.posR rs (k + 1)))) := ⟨(hg6.block R0 (by have h1 := blk_lt HIT4.out; have h2 := HB5.out.size; omega) (fun e => by have := RI_base HU4.out R0 e.symm; omega)).trans (blk_keep HIT4.out HB5.out)⟩
   have HW6 := Aside0.mk (grown_on hg6 (below_more HW4.out HB5.out) (fun j e => by have := RI_base HU4.out j e; have := HWR.out; omega))
   have HM6 := Aside0.mk (iter_at HIT6.out)
   clear hR6 hg6
   go_roundw
   case rel => exact ⟨k + 1, by omega, HIT6, HR6, HW6⟩
   case measure => rw [HM6.out, HMS.out]; have := HLT.out; omega
set_option maxRecDepth 100000 in
theorem runesLen_call (rs : List Int) (hok : ∀ r ∈ rs, runeOk r = true) (hl : rs.length < 1000000) (w : World) (hT : Tabs w) :
  Calls Tryd.prog 25 #[.string (runesBytes rs)] w fun e w' => e = .returned (.tuple #[.int .i64 rs.length, .int .i64 0]) ∧ Below w.heap.size w w' := by
 have HD := Aside0.mk (Decode_call rs hok hl w hT)
 obtain ⟨n, Hn⟩ : ∃ n, Aside0 (rs.length = n) := ⟨_, ⟨rfl⟩⟩
 rw [Hn.out]
 clear hok hl hT
 go_enter Tryd.func25, Tryd.ntmps25
 go_wp2_with fail
 refine HD.out.mono ?_
 rintro e V ⟨v, rfl, hR, hb⟩
 obtain ⟨A, c, rfl⟩ := Kd.R_slice hR
 have HB := Aside0.mk hb
 rw [Hn.out]
 clear hR hb HD
 go_wp2
 go_ret2
 exact ⟨rfl, HB.out⟩
end Go.Proofs.YtjlpaagnajmogaaDoor.PWalk
end
section
namespace Go.Proofs.YtjlpaagnajmogaaDoor.PWalk
open Go.RowKit Go.Proofs.YtjlpaagnajmogaaDoorW.PrintWords Go.Proofs.YtjlpaagnajmogaaDoorW.PrintLast Go.Proofs.YtjlpaagnajmogaaDoorW.PrintMore
set_option linter.unusedVariables false
set_option linter.unusedSimpArgs false
open Go.Shelf
attribute [local go_sem] Oper.semAt_some
/-- A rune that the machine can hold. -/
def runeIn (r : Int) : Prop := -9223372036854775808 ≤ r ∧ r ≤ 9223372036854775807
theorem rdN {l : List Node} {i : Nat} (h : i < l.length) : rd_T37 l (i : Int) = l[i] := by simp [rd_T37, h]
theorem wrap_succ {i n : Nat} (h : i < n) (hn : n ≤ 1000000) : wrap64 ((i : Int) + 1) = ((i + 1 : Nat) : Int) := by unfold wrap64; omega
theorem rdD {l : List Dot} {i : Nat} (h : i < l.length) : rd_T35 l (i : Int) = l[i] := by simp [rd_T35, h]
theorem dot_beq (a b : Dot) : (a.f0 == b.f0 && (a.f1 == b.f1)) = decide (a = b) := by
 by_cases h : a = b
 ·
  subst h; simp
 ·
  rw [decide_eq_false h, Bool.eq_false_iff]
  intro hh
  simp only [Bool.and_eq_true, beq_iff_eq] at hh
  exact h (Dot.ext_iff'.2 hh)
theorem refSameD_from (l m : List Dot) (hlm : l.length = m.length) (hl : l.length ≤ 1000000) : ∀ (q k i : Nat), i + q = l.length → q < k → redpencilref04_Same.l0 k l m (i : Int) = some (decide (l.drop i = m.drop i)) := by
 intro q
 induction q with
 | zero =>
  intro k i hi hk
  obtain ⟨k, rfl⟩ : ∃ m, k = m + 1 := ⟨k - 1, by omega⟩
  simp only [redpencilref04_Same.l0]
  rw [if_neg (by omega), List.drop_of_length_le (by omega), List.drop_of_length_le (by omega)]; simp
 | succ q ih =>
  intro k i hi hk
  obtain ⟨k, rfl⟩ : ∃ m, k = m + 1 := ⟨k - 1, by omega⟩
  have hlt : i < l.length := by omega
  have hlt2 : i < m.length := by omega
  simp only [redpencilref04_Same.l0]
  have hm : l.drop i = m.drop i ↔ l[i] = m[i] ∧ l.drop (i + 1) = m.drop (i + 1) := by rw [List.drop_eq_getElem_cons hlt, List.drop_eq_getElem_cons hlt2, List.cons.injEq]
  rw [if_pos (by omega), if_pos (by omega), if_pos (by omega), rdD hlt, rdD hlt2, ← Bool.not_and, dot_beq, wrap_succ hlt hl, ih k (i + 1) (by omega) (by omega)]
  by_cases h : l[i] = m[i]
  ·
   rw [decide_eq_true h, if_neg (by simp)]
   congr 1
   rw [decide_eq_decide, hm]
   exact ⟨fun e => ⟨h, e⟩, fun e => e.2⟩
  ·
   rw [decide_eq_false h, if_pos (show (!false) = true from rfl), decide_eq_false (fun e => h (hm.1 e).1)]
theorem refSameD_is (l m : List Dot) (hl : l.length ≤ 1000000) (k : Nat) (hk : l.length < k) : redpencilref04_Same.f k l m = some (decide (l = m)) := by
 unfold redpencilref04_Same.f
 by_cases h : l.length = m.length
 ·
  rw [if_pos (by omega)]
  have := refSameD_from l m h hl l.length k 0 (by omega) hk
  simpa using this
 ·
  rw [if_neg (by omega)]
  have : l ≠ m := fun e => h (by rw [e])
  simp [this]
theorem ord_len {ll : List Node} (hs : storeOk ll = true) : (nds (ordOf ll)).length ≤ ll.length := by rw [nds_length]; exact ord_le (store_of hs)
theorem vis_len {ll : List Node} (hs : storeOk ll = true) : (visOf ll).length ≤ ll.length := Nat.le_trans (aliveOf_le _) (ord_len hs)
theorem first2_k {k : Nat} (hk : 3 ≤ k) (a b : Int) : index_first.f k [a, b] = some (if a = 0 then b else a) := by
 obtain ⟨m, rfl⟩ : ∃ m, k = m + 3 := ⟨k - 3, by omega⟩
 by_cases ha : a = 0
 ·
  by_cases hb : b = 0
  ·
   subst ha hb; simp [index_first.f, index_first.l0, rd, wrap64]
  ·
   subst ha
   simp [index_first.f, index_first.l0, rd, wrap64, hb]
 ·
  simp [index_first.f, index_first.l0, rd, ha]
theorem of_at {ll : List Node} (hl : ll.length ≤ 40) {d : Dot} (hs : storeOk ll = true) (hd : dotOk d = true) (h : ¬ idxFrom (dotIs d) (visOf ll) < 0) : redpencillaw12_of.f ll d.f0 d.f1 (idxFrom (dotIs d) (visOf ll)) 0 = some true := by
 unfold redpencillaw12_of.f index_Of.f
 rw [if_pos (by omega), if_pos ⟨hs, hd⟩, if_neg h]
 simp
theorem before_at {ll : List Node} (hl : ll.length ≤ 40) {d : Dot} (hs : storeOk ll = true) (hd : dotOk d = true) (h : ¬ idxFrom (dotIs d) (nds (ordOf ll)) < 0) : redpencillaw12_before.f ll d.f0 d.f1 ((aliveOf ((nds (ordOf ll)).take (idxFrom (dotIs d) (nds (ordOf ll))).toNat)).length : Int) 0 = some true := by
 unfold redpencillaw12_before.f index_Before.f
 rw [if_pos (by omega), if_pos ⟨hs, hd⟩, if_neg h]
 simp
theorem left_at {ll : List Node} (hl : ll.length ≤ 40) (hs : storeOk ll = true) {i : Int} (h0 : 0 < i) (h1 : i ≤ (visOf ll).length) {k : Nat} (hk : 3 ≤ k) : redpencillaw12_left.f k ll i (rd_T35 ((visOf ll).map (·.f0)) (wrap64 (i - 1))).f0 (rd_T35 ((visOf ll).map (·.f0)) (wrap64 (i - 1))).f1 0 = some true := by
 obtain ⟨m, rfl⟩ : ∃ m, k = m + 1 := ⟨k - 1, by omega⟩
 have hv := vis_len hs
 have hw : wrap64 (i - 1) = ((i.toNat - 1 : Nat) : Int) := by unfold wrap64; omega
 have hlt : i.toNat - 1 < (visOf ll).length := by omega
 unfold redpencillaw12_left.f index_Left.f
 rw [vis_is (by omega), if_pos hs]
 simp only [Option.bind_some, when_is, first2_k hk, index_Left.j0]
 rw [if_neg (by omega), show decide (i > ((visOf ll).length : Int)) = false from decide_eq_false (by omega)]
 simp only [Bool.false_eq_true, if_false, if_true, Option.bind_some]
 rw [if_neg (by omega), hw, if_pos (by omega), if_pos (by omega), rdN hlt, rdD (by rw [List.length_map]; exact hlt)]
 simp
theorem dots12_at {ll : List Node} (hl : ll.length ≤ 40) (hs : storeOk ll = true) {i j : Int} (h : ¬ (i < 0 ∨ j < i ∨ (visOf ll).length < j)) {k : Nat} (hk : 60 ≤ k) : redpencillaw12_dots.f k ll i j ((((visOf ll).map (·.f0)).take j.toNat).drop i.toNat) 0 = some true := by
 have hv := vis_len hs
 unfold redpencillaw12_dots.f index_Dots.f
 rw [if_pos (by omega), if_pos hs, if_neg h]
 simp only [Option.bind_some]
 rw [show (((visOf ll).take j.toNat).drop i.toNat).map (·.f0) = (((visOf ll).map (·.f0)).take j.toNat).drop i.toNat by rw [List.map_drop, List.map_take]]
 rw [refSameD_is _ _ (by rw [List.length_drop, List.length_take, List.length_map]; omega) k (by rw [List.length_drop, List.length_take, List.length_map]; omega)]
 simp
def runesOf (ll : List Node) : List Int := (visOf ll).map (·.f3)
theorem mem_vis {ll : List Node} (hs : storeOk ll = true) {x : Node} (h : x ∈ visOf ll) : x ∈ ll ∧ ¬ x.f3 = 0 := by
 unfold visOf aliveOf at h
 rw [List.mem_filter] at h
 obtain ⟨h1, h2⟩ := h
 unfold nds at h1
 rw [List.mem_map] at h1
 obtain ⟨p, hp, rfl⟩ := h1
 exact ⟨ord_mem (store_of hs) hp, by simpa using h2⟩
theorem vis_rune {ll : List Node} (hs : storeOk ll = true) {x : Node} (h : x ∈ visOf ll) : runeOk x.f3 = true := by
 obtain ⟨h1, h2⟩ := mem_vis hs h
 unfold storeOk at hs
 rw [Bool.and_eq_true, List.all_eq_true] at hs
 have h3 := hs.1 x h1
 unfold nodeOk at h3
 have h4 := (of_decide_eq_true h3).2.2.2.2.2
 rcases h4 with h4 | h4
 ·
  exact absurd h4 h2
 ·
  exact h4
theorem runesOf_ok {ll : List Node} (hs : storeOk ll = true) : ∀ r ∈ runesOf ll, runeOk r = true := by
 intro r hr
 unfold runesOf at hr
 rw [List.mem_map] at hr
 obtain ⟨x, hx, rfl⟩ := hr
 exact vis_rune hs hx
theorem runesOf_len {ll : List Node} (hs : storeOk ll = true) : (runesOf ll).length ≤ ll.length := by unfold runesOf; rw [List.length_map]; exact vis_len hs
theorem runes_from (v : List Node) (hl : v.length ≤ 1000000) (e : Int) : ∀ (q k i : Nat), i + q = v.length → q < k → index_Runes.l0 k e ((v.take i).map (·.f3)) v (v.length : Int) (i : Int) = some (v.map (·.f3), e) := by
 intro q
 induction q with
 | zero =>
  intro k i hi hk
  obtain ⟨k, rfl⟩ : ∃ m, k = m + 1 := ⟨k - 1, by omega⟩
  simp only [index_Runes.l0]
  rw [if_neg (by omega), show i = v.length by omega, List.take_length]
 | succ q ih =>
  intro k i hi hk
  obtain ⟨k, rfl⟩ : ∃ m, k = m + 1 := ⟨k - 1, by omega⟩
  have hlt : i < v.length := by omega
  simp only [index_Runes.l0]
  rw [if_pos (by omega), if_pos (by omega), if_pos (by omega), rdN hlt, wrap_succ hlt hl, if_pos (by rw [List.length_map, List.length_take]; omega)]
  have hs : (v.take i).map (·.f3) ++ [v[i].f3] = (v.take (i + 1)).map (·.f3) := by rw [List.take_succ_eq_append_getElem hlt, List.map_append]; rfl
  rw [hs]
  exact ih k (i + 1) (by omega) (by omega)
theorem idxRunes_is {ll : List Node} (hl : ll.length ≤ 40) (hs : storeOk ll = true) {k : Nat} (hk : 60 ≤ k) : index_Runes.f k ll = some (runesOf ll, 0) := by
 have hv := vis_len hs
 unfold index_Runes.f
 rw [vis_is (by omega), if_pos hs]
 simp only [Option.bind_some]
 exact runes_from (visOf ll) (by omega) 0 (visOf ll).length k 0 (by omega) (by omega)
theorem idxText_is {ll : List Node} (hl : ll.length ≤ 40) (hs : storeOk ll = true) {k : Nat} (hk : 60 ≤ k) : index_Text.f k ll = some (runesBytes (runesOf ll), 0) := by
 have := runesOf_len hs
 unfold index_Text.f
 rw [idxRunes_is hl hs hk]
 simp only [Option.bind_some, if_true]
 unfold runes_Encode.f
 rw [if_pos (by omega), if_neg ?_]
 ·
  rfl
 ·
  intro h
  rw [List.any_eq_true] at h
  obtain ⟨r, hr, h2⟩ := h
  rw [runesOf_ok hs r hr] at h2
  cases h2
theorem ord_dots {l : List Node} (hs : storeOk l = true) {x y : Node} (hx : x ∈ nds (ordOf l)) (hy : y ∈ nds (ordOf l)) (e : x.f0 = y.f0) : x = y := by
 have hst := store_of hs
 unfold nds at hx hy
 rw [List.mem_map] at hx hy
 obtain ⟨p, hp, rfl⟩ := hx
 obtain ⟨q, hq, rfl⟩ := hy
 exact inc_eq hst.inc (ord_mem hst hp) (ord_mem hst hq) e
/-- The order around a visible node. -/
theorem order_at {l : List Node} (hs : storeOk l = true) {i : Nat} {x : Node} (hi : (visOf l)[i]? = some x) :
  ∃ L1 L2, nds (ordOf l) = L1 ++ x :: L2 ∧ visOf l = aliveOf L1 ++ x :: aliveOf L2 ∧ (aliveOf L1).length = i ∧ (∀ y ∈ L1, y.f0 ≠ x.f0) ∧ (∀ y ∈ L2, y.f0 ≠ x.f0) ∧ ¬ x.f3 = 0 := by
 have hm := List.mem_of_getElem? hi
 have hx0 := (mem_vis hs hm).2
 have hxo : x ∈ nds (ordOf l) := by
  unfold visOf aliveOf at hm
  exact (List.mem_filter.1 hm).1
 obtain ⟨L1, L2, hL⟩ := List.append_of_mem hxo
 have hnd : (nds (ordOf l)).Nodup := ord_nodup (store_of hs)
 have hv : visOf l = aliveOf L1 ++ x :: aliveOf L2 := by
  unfold visOf aliveOf
  rw [hL, List.filter_append, List.filter_cons, if_pos (by simp [hx0])]
 have hvn : (visOf l).Nodup := hnd.filter _
 rw [hL] at hnd
 rw [List.nodup_append] at hnd
 have hne1 : ∀ y ∈ L1, y.f0 ≠ x.f0 := fun y hy e => by
  have := ord_dots hs (by rw [hL]; exact List.mem_append_left _ hy) hxo e
  subst this
  exact hnd.2.2 y hy y (List.mem_cons_self ..) rfl
 have hne2 : ∀ y ∈ L2, y.f0 ≠ x.f0 := fun y hy e => by
  have := ord_dots hs (by rw [hL]; exact List.mem_append_right _ (List.mem_cons_of_mem _ hy)) hxo e
  subst this
  exact (List.nodup_cons.1 hnd.2.1).1 hy
 refine ⟨L1, L2, hL, hv, ?_, hne1, hne2, hx0⟩
 have h2 : (visOf l)[(aliveOf L1).length]? = some x := by rw [hv]; simp
 have hlt := (List.getElem?_eq_some_iff.1 h2).1
 exact (List.getElem?_inj hlt hvn).1 (by rw [h2, hi])
end Go.Proofs.YtjlpaagnajmogaaDoor.PWalk
end
section
namespace Go.Proofs.YtjlpaagnajmogaaDoor.PWalk
open Go.RowKit Go.Proofs.YtjlpaagnajmogaaDoorW.PrintWords Go.Proofs.YtjlpaagnajmogaaDoorW.PrintLast Go.Proofs.YtjlpaagnajmogaaDoorW.PrintMore
set_option linter.unusedVariables false
set_option linter.unusedSimpArgs false
open Go.Shelf
attribute [local go_sem] Oper.semAt_some
theorem dotIs_self (x : Node) : dotIs x.f0 x = true := by unfold dotIs; simp
theorem dotIs_no {x y : Node} (h : y.f0 ≠ x.f0) : dotIs x.f0 y = false := by
 unfold dotIs
 rw [Bool.eq_false_iff]
 intro e
 rw [Bool.and_eq_true, beq_iff_eq, beq_iff_eq] at e
 exact h (Dot.ext_iff'.2 e)
theorem idx_mid {L1 L2 : List Node} {x : Node} (h : ∀ y ∈ L1, y.f0 ≠ x.f0) : idxFrom (dotIs x.f0) (L1 ++ x :: L2) = L1.length := by
 refine idxFrom_at (x := x) (by simp) (dotIs_self x) fun j y hj hy => ?_
 rw [List.getElem?_append_left hj] at hy
 exact dotIs_no (h y (List.mem_of_getElem? hy))
theorem holds_of {ll : List Node} (hl : ll.length ≤ 40) (hs : storeOk ll = true) {i : Nat} {x : Node} (hi : (visOf ll)[i]? = some x) : redpencillaw12_of.f ll x.f0.f0 x.f0.f1 (i : Int) 0 = some true := by
 obtain ⟨L1, L2, h1, h2, h3, h4, h5, h6⟩ := order_at hs hi
 have hd : dotOk x.f0 = true := by
  have := (store_of hs).ok x (mem_vis hs (List.mem_of_getElem? hi)).1
  unfold nodeOk at this
  rw [decide_eq_true_eq] at this
  exact this.1
 have he : idxFrom (dotIs x.f0) (visOf ll) = (i : Int) := by
  rw [h2, idx_mid (L1 := aliveOf L1) fun y hy => h4 y (List.mem_filter.1 (show y ∈ L1.filter _ from hy)).1, h3]
 have := of_at hl hs hd (by rw [he]; omega)
 rwa [he] at this
theorem holds_before {ll : List Node} (hl : ll.length ≤ 40) (hs : storeOk ll = true) {i : Nat} {x : Node} (hi : (visOf ll)[i]? = some x) : redpencillaw12_before.f ll x.f0.f0 x.f0.f1 (i : Int) 0 = some true := by
 obtain ⟨L1, L2, h1, h2, h3, h4, h5, h6⟩ := order_at hs hi
 have hd : dotOk x.f0 = true := by
  have := (store_of hs).ok x (mem_vis hs (List.mem_of_getElem? hi)).1
  unfold nodeOk at this
  rw [decide_eq_true_eq] at this
  exact this.1
 have he : idxFrom (dotIs x.f0) (nds (ordOf ll)) = (L1.length : Int) := by rw [h1, idx_mid h4]
 have := before_at hl hs hd (by rw [he]; omega)
 rw [he, Int.toNat_natCast, h1, List.take_left', h3] at this
 ·
  exact this
 ·
  rfl
theorem holds_left {ll : List Node} (hl : ll.length ≤ 40) (hs : storeOk ll = true) {i : Nat} {x : Node} (hi : (visOf ll)[i]? = some x) : redpencillaw12_left.f 1000 ll ((i : Int) + 1) x.f0.f0 x.f0.f1 0 = some true := by
 have hlt := (List.getElem?_eq_some_iff.1 hi).1
 have hv := vis_len hs
 have := left_at hl hs (i := (i : Int) + 1) (by omega) (by omega) (k := 1000) (by omega)
 have hw : wrap64 ((i : Int) + 1 - 1) = (i : Int) := by unfold wrap64; omega
 rw [hw] at this
 have hr : rd_T35 ((visOf ll).map (·.f0)) (i : Int) = x.f0 := by
  unfold rd_T35
  simp [hi]
 rwa [hr] at this
theorem holds_at {ll : List Node} (hl : ll.length ≤ 40) (hs : storeOk ll = true) {i : Nat} {x : Node} (hx : (visOf ll)[i]? = some x) {k : Nat} (hk : 3 ≤ k) : index_At.f k ll (i : Int) = some (x.f0.f0, x.f0.f1, x.f1.f0, x.f1.f1, x.f2, x.f3, 0) := by
 have hlt := (List.getElem?_eq_some_iff.1 hx).1
 have hxe := (List.getElem?_eq_some_iff.1 hx).2
 unfold index_At.f
 rw [vis_is (by omega), if_pos hs]
 simp only [Option.bind_some, when_is, first2_k hk]
 rw [if_neg (by omega), show decide ((i : Int) ≥ ((visOf ll).length : Int)) = false from decide_eq_false (by omega)]
 simp only [Bool.false_eq_true, if_false, if_true, Option.bind_some]
 rw [if_pos (by omega), if_pos (by omega), rdN hlt, hxe]
theorem holds_len {ll : List Node} (hl : ll.length ≤ 40) (hs : storeOk ll = true) : index_Len.f ll = some (((visOf ll).length : Int), 0) := by
 unfold index_Len.f
 rw [vis_is (by omega), if_pos hs]
 rfl
theorem holds_dots {ll : List Node} (hl : ll.length ≤ 40) (hs : storeOk ll = true) {i j : Nat} (hij : i ≤ j) (hj : j ≤ (visOf ll).length) : index_Dots.f ll (i : Int) (j : Int) = some ((((visOf ll).map (·.f0)).take j).drop i, 0) := by
 unfold index_Dots.f
 rw [if_pos (by omega), if_pos hs, if_neg (by omega), Int.toNat_natCast, Int.toNat_natCast, List.map_drop, List.map_take]
theorem holds_both {ll : List Node} (hl : ll.length ≤ 40) (hs : storeOk ll = true) {p : Nat} (hp : p ≤ (visOf ll).length) : redpencillaw12_dots.f 1000 ll 0 ((visOf ll).length : Int) (((((visOf ll).map (·.f0)).take p).drop 0) ++ (((visOf ll).map (·.f0)).take (visOf ll).length).drop p) 0 = some true := by
 have := dots12_at hl hs (i := 0) (j := ((visOf ll).length : Int)) (by omega) (k := 1000) (by omega)
 have e : ((((visOf ll).map (·.f0)).take p).drop 0) ++ (((visOf ll).map (·.f0)).take (visOf ll).length).drop p = (((visOf ll).map (·.f0)).take ((visOf ll).length : Int).toNat).drop (0 : Int).toNat := by
  rw [Int.toNat_natCast, List.take_of_length_le (l := (visOf ll).map (·.f0)) (i := (visOf ll).length) (by rw [List.length_map]; exact Nat.le_refl _), List.drop_zero, List.take_append_drop]
  rfl
 rw [e]
 exact this
end Go.Proofs.YtjlpaagnajmogaaDoor.PWalk
end
section
namespace Go.Proofs.YtjlpaagnajmogaaDoor.PWalk
open Go.RowKit Go.Proofs.YtjlpaagnajmogaaDoorW.PrintWords Go.Proofs.YtjlpaagnajmogaaDoorW.PrintLast Go.Proofs.YtjlpaagnajmogaaDoorW.PrintMore
set_option linter.unusedVariables false
set_option linter.unusedSimpArgs false
open Go.Shelf
attribute [local go_sem] Oper.semAt_some
def ih13Inv (W0 : World) (A0 : Option Addr) (ar : Addr) (n c0 N cr i gB : Nat) (x : Node) (z1 z2 z3 z4 z5 z6 z7 z8 z10 z11 z12 z16 z17 z18 z19 z20 z21 z22 z23 z24 z25 z26 z27 z28 z29 z30 z31 z32 z33 z34 z35 z36 z37 z38 z39 z40 z41 z42 z43 z44 z45 z46 z47 z48 z49 z50 z51 z52 z53 z54 z55 z56 z57 z58 z59 z60 z61 z62 z63 z64 z65 z66 z67 z68 z69 z70 z71 z72 z73 z74 z75 z76 z77 z78 z79 z80 z81 z82 z83 z84 z85 z86 z87 z88 z89 z90 z91 z92 z93 z94 z95 z96 z97 z98 z99 z100 z101 z102 z103 z104 z105 z106 z107 z108 z109 z110 z111 z112 z113 z114 z115 z116 z117 z118 z119 z120 z121 z122 z123 z124 z125 z126 z127 z128 z129 z130 z131 z132 z133 z134 z135 z136 z137 z138 z139 z140 z141 z142 z143 z144 z145 z146 z147 z148 z149 z150 z151 z152 z153 z154 z155 z156 z157 z158 z159 z160 z161 z162 z163 z164 z165 z166 z167 z168 z169 z170 z171 z172 z173 : Value) (L : Array Bool) (ac : Act) (V : World) : Prop := ∃ (l0 l1 l2 l3 l4 l5 l6 l7 l8 l9 l10 l11 l12 l13 l14 l15 l16 l17 l18 l19 l20 l21 l22 l23 l24 l25 l26 l27 l28 l29 l30 l31 l32 l33 l34 l35 : Bool), L = #[l0, l1, l2, l3, l4, l5, l6, l7, l8, l9, l10, l11, l12, l13, l14, l15, l16, l17, l18, l19, l20, l21, l22, l23, l24, l25, l26, l27, l28, l29, l30, l31, l32, l33, l34, l35] ∧ ac = { tmps := #[.slice A0 n c0, z1, z2, z3, z4, z5, z6, z7, z8, .slice (some ar) N cr, z10, z11, z12, .int .i64 (i : Int), .pointer (some ⟨gB, 0, none⟩), .int .i64 0, z16, z17, z18, z19, z20, z21, z22, z23, z24, z25, z26, z27, z28, z29, z30, z31, z32, z33, z34, z35, z36, z37, z38, z39, z40, z41, z42, z43, z44, z45, z46, z47, z48, z49, z50, z51, z52, z53, z54, z55, z56, z57, z58, z59, z60, z61, z62, z63, z64, z65, z66, z67, z68, z69, z70, z71, z72, z73, z74, z75, z76, z77, z78, z79, z80, z81, z82, z83, z84, z85, z86, z87, z88, z89, z90, z91, selv l0 (.int .i64 0) (z92), selv l1 (.bool false) (z93), selv l2 (.bool false) (z94), selv l3 (.pointer (some ⟨gB, 5, none⟩)) (z95), selv l4 (.int .i32 x.f3) (z96), selv l5 (.slice (some ar) N cr) (z97), selv l6 (.int .i64 (i : Int)) (z98), selv l7 (.pointer (some (ar.add i))) (z99), selv l8 (.int .i32 x.f3) (z100), selv l9 (.bool false) (z101), selv l10 (.bool false) (z102), selv l11 (.bool false) (z103), selv l12 (.slice A0 n c0) (z104), selv l13 (.pointer (some ⟨gB, 0, none⟩)) (z105), selv l14 (vDot x.f0) (z106), selv l15 (.int .i64 (i : Int)) (z107), selv l16 (.bool true) (z108), selv l17 (.bool false) (z109), selv l18 (.bool false) (z110), selv l19 (.bool false) (z111), selv l20 (.slice A0 n c0) (z112), selv l21 (.pointer (some ⟨gB, 0, none⟩)) (z113), selv l22 (vDot x.f0) (z114), selv l23 (.int .i64 (i : Int)) (z115), selv l24 (.bool true) (z116), selv l25 (.bool false) (z117), selv l26 (.bool false) (z118), selv l27 (.bool false) (z119), selv l28 (.slice A0 n c0) (z120), selv l29 (.int .i64 (i : Int)) (z121), selv l30 (.int .i64 ((i : Int) + 1)) (z122), selv l31 (.pointer (some ⟨gB, 0, none⟩)) (z123), selv l32 (vDot x.f0) (z124), selv l33 (.bool true) (z125), selv l34 (.bool false) (z126), selv l35 (.bool false) (z127), z128, z129, z130, z131, z132, z133, z134, z135, z136, z137, z138, z139, z140, z141, z142, z143, z144, z145, z146, z147, z148, z149, z150, z151, z152, z153, z154, z155, z156, z157, z158, z159, z160, z161, z162, z163, z164, z165, z166, z167, z168, z169, z170, z171, z172, z173], defers := [] } ∧ Aside0 (Below W0.heap.size W0 V)
set_option maxHeartbeats 4000000 in
set_option maxRecDepth 100000 in
theorem IndexHolds.walk (A0 : Option Addr) (c0 : Nat) (ll : List Node) (w : World) (hr0 : Kd.C k37 w A0 ll.length ll) (hc0 : ll.length ≤ c0) (hi : ∀ x ∈ ll, runeIn x.f3) (a1 : Int) (w1 : (Lit.int .i64 a1).wf = true) (hT : Tabs w) :
  Calls Tryd.prog 7 #[.slice A0 ll.length c0, .int .i64 a1] w fun e w' => e = .returned (.bool true) ∧ Below w.heap.size w w' := by
 have HR := Aside0.mk hr0
 have HC := Aside0.mk hc0
 have HTB := Aside0.mk hT
 obtain ⟨n, Hn⟩ : ∃ n, Aside0 (ll.length = n) := ⟨_, ⟨rfl⟩⟩
 by_cases h40 : ll.length > 40
 ·
  have hb2 : decide ((40 : Int) < (n : Int)) = true := decide_eq_true (by have := Hn.out; omega)
  have hb3 : decide ((n : Int) > 40) = true := decide_eq_true (by have := Hn.out; omega)
  rw [Hn.out]
  clear hr0 hc0 hi h40 w1 hT
  go_enter Tryd.func7, Tryd.ntmps7
  go_wp2_with fail
  refine (redpencillaw12_known.calls true _ rfl).mono ?_
  rintro e W3 ⟨rfl, hd⟩
  go_wp2
  go_ret
  exact ⟨rfl, hd⟩
 have HL : Aside0 (ll.length ≤ 40) := ⟨by omega⟩
 have hb2 : decide ((40 : Int) < (n : Int)) = false := decide_eq_false (by have := Hn.out; omega)
 have hb3 : decide ((n : Int) > 40) = false := decide_eq_false (by have := Hn.out; omega)
 obtain ⟨b, Hb⟩ : ∃ b, Aside0 (storeOk ll = b) := ⟨_, ⟨rfl⟩⟩
 have hval := store_Valid.calls A0 c0 ll b w hr0 hc0 (by unfold store_Valid.f; rw [if_pos (by omega), Hb.out])
 rw [Hn.out] at hval ⊢
 have HVAL := Aside0.mk hval
 clear hr0 hc0 hi h40 hval w1 hT
 go_enter Tryd.func7, Tryd.ntmps7
 go_wp2_with fail
 refine HVAL.out.mono ?_
 rintro e V1 ⟨rfl, hb⟩
 have HB := Aside0.mk hb
 clear hb HVAL
 cases b with
 | false =>
  go_wp2_with fail
  refine (redpencillaw12_known.calls true _ rfl).mono ?_
  rintro e W3 ⟨rfl, hd⟩
  go_wp2
  go_ret
  exact ⟨rfl, below_more HB.out hd⟩
 | true =>
  obtain ⟨vs, Hvs⟩ : ∃ vs, Aside0 (visOf ll = vs) := ⟨_, ⟨rfl⟩⟩
  obtain ⟨N, HN⟩ : ∃ N, Aside0 (vs.length = N) := ⟨_, ⟨rfl⟩⟩
  obtain ⟨rs, Hrs⟩ : ∃ rs, Aside0 (runesOf ll = rs) := ⟨_, ⟨rfl⟩⟩
  have HRN : Aside0 (rs = vs.map (·.f3)) := ⟨by rw [← Hrs.out, ← Hvs.out]; rfl⟩
  have HRL : Aside0 (rs.length = N) := ⟨by rw [HRN.out, List.length_map, HN.out]⟩
  have HNn : Aside0 (N ≤ n ∧ n ≤ 40) := ⟨by have h1 := vis_len Hb.out; have h2 := HL.out; rw [Hvs.out, HN.out, Hn.out] at h1; rw [Hn.out] at h2; exact ⟨h1, h2⟩⟩
  have hcall := index_Len.calls A0 c0 ll (N : Int) 0 V1 (Kd.C_below HR.out HB.out) HC.out (by rw [holds_len HL.out Hb.out, Hvs.out, HN.out])
  rw [Hn.out] at hcall
  have HCALL := Aside0.mk hcall
  clear hcall
  go_wp2_with fail
  refine HCALL.out.mono ?_
  rintro e V2 ⟨rfl, hb⟩
  have HB := Aside0.mk (below_more HB.out hb)
  clear hb HCALL
  have hcall := index_Text.calls 1000 A0 c0 ll (runesBytes rs) 0 V2 (Kd.C_below HR.out HB.out) HC.out (by rw [idxText_is HL.out Hb.out (by omega), Hrs.out])
  rw [Hn.out] at hcall
  have HCALL := Aside0.mk hcall
  clear hcall
  go_wp2_with fail
  refine HCALL.out.mono ?_
  rintro e V3 ⟨rfl, hb⟩
  have HB := Aside0.mk (below_more HB.out hb)
  clear hb HCALL
  have hcall := index_Runes.calls 1000 A0 c0 ll rs 0 V3 (Kd.C_below HR.out HB.out) HC.out (by rw [idxRunes_is HL.out Hb.out (by omega), Hrs.out])
  rw [Hn.out] at hcall
  have HCALL := Aside0.mk hcall
  clear hcall
  go_wp2_with fail
  refine HCALL.out.mono ?_
  rintro e V4 ⟨v8, rfl, hr8, hb⟩
  have HB := Aside0.mk (below_more HB.out hb)
  obtain ⟨Ar, cr, rfl⟩ := Kd.R_slice hr8
  have H8 := Aside0.mk (Kd.R_reads' hr8).2
  clear hb HCALL hr8
  rw [HRL.out] at H8 ⊢
  have hcall := runesLen_call rs (by rw [← Hrs.out]; exact runesOf_ok Hb.out) (by rw [HRL.out]; have := HNn.out; omega) V4 (Utf8Tabs_below HTB.out HB.out)
  rw [HRL.out] at hcall
  have HCALL := Aside0.mk hcall
  clear hcall
  go_wp2_with fail
  refine HCALL.out.mono ?_
  rintro e V5 ⟨rfl, hb⟩
  have HB := Aside0.mk (below_more HB.out hb)
  have H8 := Aside0.mk (Kd.C_below H8.out.2 hb)
  clear hb HCALL
  have g1 : decide ((N : Int) < 0) = false := decide_eq_false (by omega)
  have g2 : decide ((N : Int) > (n : Int)) = false := decide_eq_false (by have := HNn.out; omega)
  have g3 : decide (n < N) = false := decide_eq_false (by have := HNn.out; omega)
  have g4 : ¬ n < N := by have := HNn.out; omega
  go_wp2_with fail
  clear g1 g2 g3 g4
  go_loopw [83] (fun v wr => ∃ i : Nat, v = .int .i64 i ∧ i ≤ N ∧ Aside0 (Below V5.heap.size V5 wr)) (fun v _ => N - (intOf v).toNat)
  case atStart => exact ⟨0, rfl, Nat.zero_le _, ⟨Below.refl _ _⟩⟩
  case round =>
   obtain ⟨i, rfl, hiN, HB5⟩ := hrel
   by_cases hlt : i < N
   ·
    obtain ⟨x, Hx⟩ : ∃ x, Aside0 (vs[i]? = some x) := ⟨_, ⟨List.getElem?_eq_getElem (by rw [HN.out]; exact hlt)⟩⟩
    have HVX : Aside0 ((visOf ll)[i]? = some x) := ⟨by rw [Hvs.out]; exact Hx.out⟩
    have HRX : Aside0 (rs[i]? = some x.f3) := ⟨by rw [HRN.out, List.getElem?_map, Hx.out]; rfl⟩
    have HWW := Aside0.mk (below_more HB.out HB5.out)
    have hcall := index_At.calls 1000 A0 c0 ll (i : Int) x.f0.f0 x.f0.f1 x.f1.f0 x.f1.f1 x.f2 x.f3 0 wr (Kd.C_below HR.out HWW.out) HC.out (holds_at HL.out Hb.out HVX.out (by omega))
    rw [Hn.out] at hcall
    have HCALL := Aside0.mk hcall
    clear hcall
    go_wp2_with fail
    refine HCALL.out.mono ?_
    rintro e W6 ⟨rfl, hb⟩
    have HB6 := Aside0.mk (below_more HB5.out hb)
    clear hb HCALL
    go_wp2_with fail
    have HBX := Aside0.mk (blk_new W6 (boxN x))
    have HB7 := Aside0.mk (below_more HB6.out (below_alloc (Below.refl _ W6) (boxN x)))
    obtain ⟨gB, HgB⟩ : ∃ gB, Aside0 (W6.heap.size = gB) := ⟨_, ⟨rfl⟩⟩
    rw [HgB.out] at HBX ⊢
    have hg : ∃ W7, W7 = W6.alloc (boxN x) := ⟨_, rfl⟩
    obtain ⟨W7, hW7⟩ := hg
    rw [← hW7] at HBX HB7 ⊢
    clear hW7
    obtain ⟨ar, e, _⟩ := rune_at H8.out HB7.out i x.f3 HRX.out
    subst e
    have HIN : Aside0 (i < N ∧ N ≤ 40) := ⟨hlt, by have := HNn.out; omega⟩
    have HWI : Aside0 (wrap64 ((i : Int) + 1) = (i : Int) + 1) := ⟨by have := HNn.out; unfold wrap64; omega⟩
    have HCL : Aside0 (Kd.C k37 W7 A0 n ll) := ⟨by have := Kd.C_below HR.out (below_more HB.out HB7.out); rwa [Hn.out] at this⟩
    refine AnyOrder.wp_region (by kernel_rfl) (ih13Inv W7.drew A0 ar n c0 N cr i gB x _ _ _ _ _ _ _ _ _ _ _ _ _ _ _ _ _ _ _ _ _ _ _ _ _ _ _ _ _ _ _ _ _ _ _ _ _ _ _ _ _ _ _ _ _ _ _ _ _ _ _ _ _ _ _ _ _ _ _ _ _ _ _ _ _ _ _ _ _ _ _ _ _ _ _ _ _ _ _ _ _ _ _ _ _ _ _ _ _ _ _ _ _ _ _ _ _ _ _ _ _ _ _ _ _ _ _ _ _ _ _ _ _ _ _ _ _ _ _ _ _ _ _ _ _ _ _ _ _ _ _ _ _ _ _ _ _ _ _ _ _ _ _ _ _ _ _ _ _ _ _ _ _ _ _ _ _ _ _ _ _ _ _ _ _ _ _ _ _) ⟨false, false, false, false, false, false, false, false, false, false, false, false, false, false, false, false, false, false, false, false, false, false, false, false, false, false, false, false, false, false, false, false, false, false, false, false, rfl, rfl, ⟨Below.refl _ _⟩⟩ ?step ?last
    case step =>
     rintro L ac V i ⟨l0, l1, l2, l3, l4, l5, l6, l7, l8, l9, l10, l11, l12, l13, l14, l15, l16, l17, l18, l19, l20, l21, l22, l23, l24, l25, l26, l27, l28, l29, l30, l31, l32, l33, l34, l35, rfl, rfl, HF⟩ hi K hK
     have h1 : i = 0 ∨ i = 1 ∨ i = 2 ∨ i = 3 ∨ i = 4 ∨ i = 5 ∨ i = 6 ∨ i = 7 ∨ i = 8 ∨ i = 9 ∨ i = 10 ∨ i = 11 ∨ i = 12 ∨ i = 13 ∨ i = 14 ∨ i = 15 ∨ i = 16 ∨ i = 17 ∨ i = 18 ∨ i = 19 ∨ i = 20 ∨ i = 21 ∨ i = 22 ∨ i = 23 ∨ i = 24 ∨ i = 25 ∨ i = 26 ∨ i = 27 ∨ i = 28 ∨ i = 29 ∨ i = 30 ∨ i = 31 ∨ i = 32 ∨ i = 33 ∨ i = 34 ∨ i = 35 := by
      have h1 := (AnyOrder.mem_ready hi).1
      clear hi hK
      change i < 36 at h1
      omega
     rcases h1 with rfl | rfl | rfl | rfl | rfl | rfl | rfl | rfl | rfl | rfl | rfl | rfl | rfl | rfl | rfl | rfl | rfl | rfl | rfl | rfl | rfl | rfl | rfl | rfl | rfl | rfl | rfl | rfl | rfl | rfl | rfl | rfl | rfl | rfl | rfl | rfl
     ·
      obtain rfl : l0 = false := (AnyOrder.mem_ready hi).2.1
      clear hi
      refine AnyOrder.wpOp_go rfl (by rfl) ?_
      go_wp2_with fail
      exact ⟨true, l1, l2, l3, l4, l5, l6, l7, l8, l9, l10, l11, l12, l13, l14, l15, l16, l17, l18, l19, l20, l21, l22, l23, l24, l25, l26, l27, l28, l29, l30, l31, l32, l33, l34, l35, rfl, rfl, HF⟩
     ·
      obtain rfl : l1 = false := (AnyOrder.mem_ready hi).2.1
      obtain rfl : l0 = true := AnyOrder.dep (q := 0) hi rfl rfl rfl
      clear hi
      simp only [sel_true, selv_true] at hK ⊢
      refine AnyOrder.wpOp_go rfl (by rfl) ?_
      go_wp2_with fail
      exact ⟨true, true, l2, l3, l4, l5, l6, l7, l8, l9, l10, l11, l12, l13, l14, l15, l16, l17, l18, l19, l20, l21, l22, l23, l24, l25, l26, l27, l28, l29, l30, l31, l32, l33, l34, l35, rfl, rfl, HF⟩
     ·
      obtain rfl : l2 = false := (AnyOrder.mem_ready hi).2.1
      obtain rfl : l1 = true := AnyOrder.dep (q := 0) hi rfl rfl rfl
      clear hi
      simp only [sel_true, selv_true] at hK ⊢
      refine AnyOrder.wpOp_go rfl (by rfl) ?_
      go_wp2_with fail
      exact ⟨l0, true, true, l3, l4, l5, l6, l7, l8, l9, l10, l11, l12, l13, l14, l15, l16, l17, l18, l19, l20, l21, l22, l23, l24, l25, l26, l27, l28, l29, l30, l31, l32, l33, l34, l35, rfl, rfl, HF⟩
     ·
      obtain rfl : l3 = false := (AnyOrder.mem_ready hi).2.1
      obtain rfl : l2 = true := AnyOrder.dep (q := 0) hi rfl rfl rfl
      clear hi
      simp only [sel_true, selv_true] at hK ⊢
      refine AnyOrder.wpOp_go rfl (by rfl) ?_
      go_wp2_with fail
      exact ⟨l0, l1, true, true, l4, l5, l6, l7, l8, l9, l10, l11, l12, l13, l14, l15, l16, l17, l18, l19, l20, l21, l22, l23, l24, l25, l26, l27, l28, l29, l30, l31, l32, l33, l34, l35, rfl, rfl, HF⟩
     ·
      obtain rfl : l4 = false := (AnyOrder.mem_ready hi).2.1
      obtain rfl : l3 = true := AnyOrder.dep (q := 0) hi rfl rfl rfl
      obtain rfl : l2 = true := AnyOrder.dep (q := 1) hi rfl rfl rfl
      clear hi
      simp only [sel_true, selv_true] at hK ⊢
      have hx := blk_keep (blk_drew HBX.out) HF.out
      have q5 : V.cell? ⟨gB, 5, none⟩ = _ := (blk_cell hx 5).trans rfl
      refine AnyOrder.wpOp_go rfl (by rfl) ?_
      go_wp2_with fail
      exact ⟨l0, l1, true, true, true, l5, l6, l7, l8, l9, l10, l11, l12, l13, l14, l15, l16, l17, l18, l19, l20, l21, l22, l23, l24, l25, l26, l27, l28, l29, l30, l31, l32, l33, l34, l35, rfl, rfl, HF⟩
     ·
      obtain rfl : l5 = false := (AnyOrder.mem_ready hi).2.1
      obtain rfl : l2 = true := AnyOrder.dep (q := 0) hi rfl rfl rfl
      clear hi
      simp only [sel_true, selv_true] at hK ⊢
      refine AnyOrder.wpOp_go rfl (by rfl) ?_
      go_wp2_with fail
      exact ⟨l0, l1, true, l3, l4, true, l6, l7, l8, l9, l10, l11, l12, l13, l14, l15, l16, l17, l18, l19, l20, l21, l22, l23, l24, l25, l26, l27, l28, l29, l30, l31, l32, l33, l34, l35, rfl, rfl, HF⟩
     ·
      obtain rfl : l6 = false := (AnyOrder.mem_ready hi).2.1
      obtain rfl : l2 = true := AnyOrder.dep (q := 0) hi rfl rfl rfl
      clear hi
      simp only [sel_true, selv_true] at hK ⊢
      refine AnyOrder.wpOp_go rfl (by rfl) ?_
      go_wp2_with fail
      exact ⟨l0, l1, true, l3, l4, l5, true, l7, l8, l9, l10, l11, l12, l13, l14, l15, l16, l17, l18, l19, l20, l21, l22, l23, l24, l25, l26, l27, l28, l29, l30, l31, l32, l33, l34, l35, rfl, rfl, HF⟩
     ·
      obtain rfl : l7 = false := (AnyOrder.mem_ready hi).2.1
      obtain rfl : l5 = true := AnyOrder.dep (q := 0) hi rfl rfl rfl
      obtain rfl : l6 = true := AnyOrder.dep (q := 1) hi rfl rfl rfl
      obtain rfl : l2 = true := AnyOrder.dep (q := 2) hi rfl rfl rfl
      clear hi
      simp only [sel_true, selv_true] at hK ⊢
      have hlt := HIN.out.1
      refine AnyOrder.wpOp_go rfl (by rfl) ?_
      go_wp2_with fail
      exact ⟨l0, l1, true, l3, l4, true, true, true, l8, l9, l10, l11, l12, l13, l14, l15, l16, l17, l18, l19, l20, l21, l22, l23, l24, l25, l26, l27, l28, l29, l30, l31, l32, l33, l34, l35, rfl, rfl, HF⟩
     ·
      obtain rfl : l8 = false := (AnyOrder.mem_ready hi).2.1
      obtain rfl : l7 = true := AnyOrder.dep (q := 0) hi rfl rfl rfl
      obtain rfl : l2 = true := AnyOrder.dep (q := 1) hi rfl rfl rfl
      clear hi
      simp only [sel_true, selv_true] at hK ⊢
      obtain ⟨ar', e, hc⟩ := rune_at H8.out (below_more HB7.out (below_more (below_drew1 (Below.refl _ W7)) HF.out)) i x.f3 HRX.out
      cases e
      refine AnyOrder.wpOp_go rfl (by rfl) ?_
      go_wp2_with fail
      exact ⟨l0, l1, true, l3, l4, l5, l6, true, true, l9, l10, l11, l12, l13, l14, l15, l16, l17, l18, l19, l20, l21, l22, l23, l24, l25, l26, l27, l28, l29, l30, l31, l32, l33, l34, l35, rfl, rfl, HF⟩
     ·
      obtain rfl : l9 = false := (AnyOrder.mem_ready hi).2.1
      obtain rfl : l4 = true := AnyOrder.dep (q := 0) hi rfl rfl rfl
      obtain rfl : l8 = true := AnyOrder.dep (q := 1) hi rfl rfl rfl
      obtain rfl : l2 = true := AnyOrder.dep (q := 2) hi rfl rfl rfl
      clear hi
      simp only [sel_true, selv_true] at hK ⊢
      refine AnyOrder.wpOp_go rfl (by rfl) ?_
      go_wp2_with fail
      exact ⟨l0, l1, true, l3, true, l5, l6, l7, true, true, l10, l11, l12, l13, l14, l15, l16, l17, l18, l19, l20, l21, l22, l23, l24, l25, l26, l27, l28, l29, l30, l31, l32, l33, l34, l35, rfl, rfl, HF⟩
     ·
      obtain rfl : l10 = false := (AnyOrder.mem_ready hi).2.1
      obtain rfl : l2 = true := AnyOrder.dep (q := 0) hi rfl rfl rfl
      obtain rfl : l9 = true := AnyOrder.dep (q := 1) hi rfl rfl rfl
      clear hi
      simp only [sel_true, selv_true] at hK ⊢
      refine AnyOrder.wpOp_go rfl (by rfl) ?_
      go_wp2_with fail
      exact ⟨l0, l1, true, l3, l4, l5, l6, l7, l8, true, true, l11, l12, l13, l14, l15, l16, l17, l18, l19, l20, l21, l22, l23, l24, l25, l26, l27, l28, l29, l30, l31, l32, l33, l34, l35, rfl, rfl, HF⟩
     ·
      obtain rfl : l11 = false := (AnyOrder.mem_ready hi).2.1
      obtain rfl : l10 = true := AnyOrder.dep (q := 0) hi rfl rfl rfl
      obtain rfl : l2 = true := AnyOrder.dep (q := 1) hi rfl rfl rfl
      clear hi
      simp only [sel_true, selv_true] at hK ⊢
      refine AnyOrder.wpOp_go rfl (by rfl) ?_
      go_wp2_with fail
      exact ⟨l0, l1, true, l3, l4, l5, l6, l7, l8, l9, true, true, l12, l13, l14, l15, l16, l17, l18, l19, l20, l21, l22, l23, l24, l25, l26, l27, l28, l29, l30, l31, l32, l33, l34, l35, rfl, rfl, HF⟩
     ·
      obtain rfl : l12 = false := (AnyOrder.mem_ready hi).2.1
      obtain rfl : l11 = true := AnyOrder.dep (q := 0) hi rfl rfl rfl
      clear hi
      simp only [sel_true, selv_true] at hK ⊢
      refine AnyOrder.wpOp_go rfl (by rfl) ?_
      go_wp2_with fail
      exact ⟨l0, l1, l2, l3, l4, l5, l6, l7, l8, l9, l10, true, true, l13, l14, l15, l16, l17, l18, l19, l20, l21, l22, l23, l24, l25, l26, l27, l28, l29, l30, l31, l32, l33, l34, l35, rfl, rfl, HF⟩
     ·
      obtain rfl : l13 = false := (AnyOrder.mem_ready hi).2.1
      obtain rfl : l11 = true := AnyOrder.dep (q := 0) hi rfl rfl rfl
      clear hi
      simp only [sel_true, selv_true] at hK ⊢
      refine AnyOrder.wpOp_go rfl (by rfl) ?_
      go_wp2_with fail
      exact ⟨l0, l1, l2, l3, l4, l5, l6, l7, l8, l9, l10, true, l12, true, l14, l15, l16, l17, l18, l19, l20, l21, l22, l23, l24, l25, l26, l27, l28, l29, l30, l31, l32, l33, l34, l35, rfl, rfl, HF⟩
     ·
      obtain rfl : l14 = false := (AnyOrder.mem_ready hi).2.1
      obtain rfl : l13 = true := AnyOrder.dep (q := 0) hi rfl rfl rfl
      obtain rfl : l11 = true := AnyOrder.dep (q := 1) hi rfl rfl rfl
      clear hi
      simp only [sel_true, selv_true] at hK ⊢
      have hx := blk_keep (blk_drew HBX.out) HF.out
      have q0 : V.cell? ⟨gB, 0, none⟩ = _ := (blk_cell hx 0).trans rfl
      have q1 : V.cell? ⟨gB, 1, none⟩ = _ := (blk_cell hx 1).trans rfl
      refine AnyOrder.wpOp_go rfl (by rfl) ?_
      go_wp2_with fail
      exact ⟨l0, l1, l2, l3, l4, l5, l6, l7, l8, l9, l10, true, l12, true, true, l15, l16, l17, l18, l19, l20, l21, l22, l23, l24, l25, l26, l27, l28, l29, l30, l31, l32, l33, l34, l35, rfl, rfl, HF⟩
     ·
      obtain rfl : l15 = false := (AnyOrder.mem_ready hi).2.1
      obtain rfl : l11 = true := AnyOrder.dep (q := 0) hi rfl rfl rfl
      clear hi
      simp only [sel_true, selv_true] at hK ⊢
      refine AnyOrder.wpOp_go rfl (by rfl) ?_
      go_wp2_with fail
      exact ⟨l0, l1, l2, l3, l4, l5, l6, l7, l8, l9, l10, true, l12, l13, l14, true, l16, l17, l18, l19, l20, l21, l22, l23, l24, l25, l26, l27, l28, l29, l30, l31, l32, l33, l34, l35, rfl, rfl, HF⟩
     ·
      obtain rfl : l16 = false := (AnyOrder.mem_ready hi).2.1
      obtain rfl : l12 = true := AnyOrder.dep (q := 0) hi rfl rfl rfl
      obtain rfl : l14 = true := AnyOrder.dep (q := 1) hi rfl rfl rfl
      obtain rfl : l15 = true := AnyOrder.dep (q := 2) hi rfl rfl rfl
      obtain rfl : l11 = true := AnyOrder.dep (q := 3) hi rfl rfl rfl
      clear hi
      simp only [sel_true, selv_true] at hK ⊢
      have hh := redpencillaw12_of.calls A0 c0 ll x.f0.f0 x.f0.f1 (i : Int) 0 true V (by rw [Hn.out]; exact Kd.C_below HCL.out (below_more (below_drew1 (Below.refl _ W7)) HF.out)) HC.out (holds_of HL.out Hb.out HVX.out)
      rw [Hn.out] at hh
      refine AnyOrder.wpOp_go rfl (by rfl) ?_
      go_wp2_with fail
      refine hh.mono ?_
      rintro e V' ⟨rfl, hb⟩
      exact hK _ _ ⟨l0, l1, l2, l3, l4, l5, l6, l7, l8, l9, l10, true, true, l13, true, true, true, l17, l18, l19, l20, l21, l22, l23, l24, l25, l26, l27, l28, l29, l30, l31, l32, l33, l34, l35, rfl, rfl, ⟨below_more HF.out hb⟩⟩
     ·
      obtain rfl : l17 = false := (AnyOrder.mem_ready hi).2.1
      obtain rfl : l16 = true := AnyOrder.dep (q := 0) hi rfl rfl rfl
      obtain rfl : l11 = true := AnyOrder.dep (q := 1) hi rfl rfl rfl
      clear hi
      simp only [sel_true, selv_true] at hK ⊢
      refine AnyOrder.wpOp_go rfl (by rfl) ?_
      go_wp2_with fail
      exact ⟨l0, l1, l2, l3, l4, l5, l6, l7, l8, l9, l10, true, l12, l13, l14, l15, true, true, l18, l19, l20, l21, l22, l23, l24, l25, l26, l27, l28, l29, l30, l31, l32, l33, l34, l35, rfl, rfl, HF⟩
     ·
      obtain rfl : l18 = false := (AnyOrder.mem_ready hi).2.1
      obtain rfl : l11 = true := AnyOrder.dep (q := 0) hi rfl rfl rfl
      obtain rfl : l17 = true := AnyOrder.dep (q := 1) hi rfl rfl rfl
      clear hi
      simp only [sel_true, selv_true] at hK ⊢
      refine AnyOrder.wpOp_go rfl (by rfl) ?_
      go_wp2_with fail
      exact ⟨l0, l1, l2, l3, l4, l5, l6, l7, l8, l9, l10, true, l12, l13, l14, l15, l16, true, true, l19, l20, l21, l22, l23, l24, l25, l26, l27, l28, l29, l30, l31, l32, l33, l34, l35, rfl, rfl, HF⟩
     ·
      obtain rfl : l19 = false := (AnyOrder.mem_ready hi).2.1
      obtain rfl : l18 = true := AnyOrder.dep (q := 0) hi rfl rfl rfl
      obtain rfl : l16 = true := AnyOrder.dep (q := 1) hi rfl rfl rfl
      clear hi
      simp only [sel_true, selv_true] at hK ⊢
      refine AnyOrder.wpOp_go rfl (by rfl) ?_
      go_wp2_with fail
      exact ⟨l0, l1, l2, l3, l4, l5, l6, l7, l8, l9, l10, l11, l12, l13, l14, l15, true, l17, true, true, l20, l21, l22, l23, l24, l25, l26, l27, l28, l29, l30, l31, l32, l33, l34, l35, rfl, rfl, HF⟩
     ·
      obtain rfl : l20 = false := (AnyOrder.mem_ready hi).2.1
      obtain rfl : l19 = true := AnyOrder.dep (q := 0) hi rfl rfl rfl
      clear hi
      simp only [sel_true, selv_true] at hK ⊢
      refine AnyOrder.wpOp_go rfl (by rfl) ?_
      go_wp2_with fail
      exact ⟨l0, l1, l2, l3, l4, l5, l6, l7, l8, l9, l10, l11, l12, l13, l14, l15, l16, l17, l18, true, true, l21, l22, l23, l24, l25, l26, l27, l28, l29, l30, l31, l32, l33, l34, l35, rfl, rfl, HF⟩
     ·
      obtain rfl : l21 = false := (AnyOrder.mem_ready hi).2.1
      obtain rfl : l19 = true := AnyOrder.dep (q := 0) hi rfl rfl rfl
      clear hi
      simp only [sel_true, selv_true] at hK ⊢
      refine AnyOrder.wpOp_go rfl (by rfl) ?_
      go_wp2_with fail
      exact ⟨l0, l1, l2, l3, l4, l5, l6, l7, l8, l9, l10, l11, l12, l13, l14, l15, l16, l17, l18, true, l20, true, l22, l23, l24, l25, l26, l27, l28, l29, l30, l31, l32, l33, l34, l35, rfl, rfl, HF⟩
     ·
      obtain rfl : l22 = false := (AnyOrder.mem_ready hi).2.1
      obtain rfl : l21 = true := AnyOrder.dep (q := 0) hi rfl rfl rfl
      obtain rfl : l19 = true := AnyOrder.dep (q := 1) hi rfl rfl rfl
      clear hi
      simp only [sel_true, selv_true] at hK ⊢
      have hx := blk_keep (blk_drew HBX.out) HF.out
      have q0 : V.cell? ⟨gB, 0, none⟩ = _ := (blk_cell hx 0).trans rfl
      have q1 : V.cell? ⟨gB, 1, none⟩ = _ := (blk_cell hx 1).trans rfl
      refine AnyOrder.wpOp_go rfl (by rfl) ?_
      go_wp2_with fail
      exact ⟨l0, l1, l2, l3, l4, l5, l6, l7, l8, l9, l10, l11, l12, l13, l14, l15, l16, l17, l18, true, l20, true, true, l23, l24, l25, l26, l27, l28, l29, l30, l31, l32, l33, l34, l35, rfl, rfl, HF⟩
     ·
      obtain rfl : l23 = false := (AnyOrder.mem_ready hi).2.1
      obtain rfl : l19 = true := AnyOrder.dep (q := 0) hi rfl rfl rfl
      clear hi
      simp only [sel_true, selv_true] at hK ⊢
      refine AnyOrder.wpOp_go rfl (by rfl) ?_
      go_wp2_with fail
      exact ⟨l0, l1, l2, l3, l4, l5, l6, l7, l8, l9, l10, l11, l12, l13, l14, l15, l16, l17, l18, true, l20, l21, l22, true, l24, l25, l26, l27, l28, l29, l30, l31, l32, l33, l34, l35, rfl, rfl, HF⟩
     ·
      obtain rfl : l24 = false := (AnyOrder.mem_ready hi).2.1
      obtain rfl : l20 = true := AnyOrder.dep (q := 0) hi rfl rfl rfl
      obtain rfl : l22 = true := AnyOrder.dep (q := 1) hi rfl rfl rfl
      obtain rfl : l23 = true := AnyOrder.dep (q := 2) hi rfl rfl rfl
      obtain rfl : l19 = true := AnyOrder.dep (q := 3) hi rfl rfl rfl
      clear hi
      simp only [sel_true, selv_true] at hK ⊢
      have hh := redpencillaw12_before.calls A0 c0 ll x.f0.f0 x.f0.f1 (i : Int) 0 true V (by rw [Hn.out]; exact Kd.C_below HCL.out (below_more (below_drew1 (Below.refl _ W7)) HF.out)) HC.out (holds_before HL.out Hb.out HVX.out)
      rw [Hn.out] at hh
      refine AnyOrder.wpOp_go rfl (by rfl) ?_
      go_wp2_with fail
      refine hh.mono ?_
      rintro e V' ⟨rfl, hb⟩
      exact hK _ _ ⟨l0, l1, l2, l3, l4, l5, l6, l7, l8, l9, l10, l11, l12, l13, l14, l15, l16, l17, l18, true, true, l21, true, true, true, l25, l26, l27, l28, l29, l30, l31, l32, l33, l34, l35, rfl, rfl, ⟨below_more HF.out hb⟩⟩
     ·
      obtain rfl : l25 = false := (AnyOrder.mem_ready hi).2.1
      obtain rfl : l24 = true := AnyOrder.dep (q := 0) hi rfl rfl rfl
      obtain rfl : l19 = true := AnyOrder.dep (q := 1) hi rfl rfl rfl
      clear hi
      simp only [sel_true, selv_true] at hK ⊢
      refine AnyOrder.wpOp_go rfl (by rfl) ?_
      go_wp2_with fail
      exact ⟨l0, l1, l2, l3, l4, l5, l6, l7, l8, l9, l10, l11, l12, l13, l14, l15, l16, l17, l18, true, l20, l21, l22, l23, true, true, l26, l27, l28, l29, l30, l31, l32, l33, l34, l35, rfl, rfl, HF⟩
     ·
      obtain rfl : l26 = false := (AnyOrder.mem_ready hi).2.1
      obtain rfl : l19 = true := AnyOrder.dep (q := 0) hi rfl rfl rfl
      obtain rfl : l25 = true := AnyOrder.dep (q := 1) hi rfl rfl rfl
      clear hi
      simp only [sel_true, selv_true] at hK ⊢
      refine AnyOrder.wpOp_go rfl (by rfl) ?_
      go_wp2_with fail
      exact ⟨l0, l1, l2, l3, l4, l5, l6, l7, l8, l9, l10, l11, l12, l13, l14, l15, l16, l17, l18, true, l20, l21, l22, l23, l24, true, true, l27, l28, l29, l30, l31, l32, l33, l34, l35, rfl, rfl, HF⟩
     ·
      obtain rfl : l27 = false := (AnyOrder.mem_ready hi).2.1
      obtain rfl : l26 = true := AnyOrder.dep (q := 0) hi rfl rfl rfl
      obtain rfl : l24 = true := AnyOrder.dep (q := 1) hi rfl rfl rfl
      clear hi
      simp only [sel_true, selv_true] at hK ⊢
      refine AnyOrder.wpOp_go rfl (by rfl) ?_
      go_wp2_with fail
      exact ⟨l0, l1, l2, l3, l4, l5, l6, l7, l8, l9, l10, l11, l12, l13, l14, l15, l16, l17, l18, l19, l20, l21, l22, l23, true, l25, true, true, l28, l29, l30, l31, l32, l33, l34, l35, rfl, rfl, HF⟩
     ·
      obtain rfl : l28 = false := (AnyOrder.mem_ready hi).2.1
      obtain rfl : l27 = true := AnyOrder.dep (q := 0) hi rfl rfl rfl
      clear hi
      simp only [sel_true, selv_true] at hK ⊢
      refine AnyOrder.wpOp_go rfl (by rfl) ?_
      go_wp2_with fail
      exact ⟨l0, l1, l2, l3, l4, l5, l6, l7, l8, l9, l10, l11, l12, l13, l14, l15, l16, l17, l18, l19, l20, l21, l22, l23, l24, l25, l26, true, true, l29, l30, l31, l32, l33, l34, l35, rfl, rfl, HF⟩
     ·
      obtain rfl : l29 = false := (AnyOrder.mem_ready hi).2.1
      obtain rfl : l27 = true := AnyOrder.dep (q := 0) hi rfl rfl rfl
      clear hi
      simp only [sel_true, selv_true] at hK ⊢
      refine AnyOrder.wpOp_go rfl (by rfl) ?_
      go_wp2_with fail
      exact ⟨l0, l1, l2, l3, l4, l5, l6, l7, l8, l9, l10, l11, l12, l13, l14, l15, l16, l17, l18, l19, l20, l21, l22, l23, l24, l25, l26, true, l28, true, l30, l31, l32, l33, l34, l35, rfl, rfl, HF⟩
     ·
      obtain rfl : l30 = false := (AnyOrder.mem_ready hi).2.1
      obtain rfl : l29 = true := AnyOrder.dep (q := 0) hi rfl rfl rfl
      obtain rfl : l27 = true := AnyOrder.dep (q := 1) hi rfl rfl rfl
      clear hi
      simp only [sel_true, selv_true] at hK ⊢
      refine AnyOrder.wpOp_go rfl (by rfl) ?_
      go_wp2_with fail
      rw [HWI.out]
      exact ⟨l0, l1, l2, l3, l4, l5, l6, l7, l8, l9, l10, l11, l12, l13, l14, l15, l16, l17, l18, l19, l20, l21, l22, l23, l24, l25, l26, true, l28, true, true, l31, l32, l33, l34, l35, rfl, rfl, HF⟩
     ·
      obtain rfl : l31 = false := (AnyOrder.mem_ready hi).2.1
      obtain rfl : l27 = true := AnyOrder.dep (q := 0) hi rfl rfl rfl
      clear hi
      simp only [sel_true, selv_true] at hK ⊢
      refine AnyOrder.wpOp_go rfl (by rfl) ?_
      go_wp2_with fail
      exact ⟨l0, l1, l2, l3, l4, l5, l6, l7, l8, l9, l10, l11, l12, l13, l14, l15, l16, l17, l18, l19, l20, l21, l22, l23, l24, l25, l26, true, l28, l29, l30, true, l32, l33, l34, l35, rfl, rfl, HF⟩
     ·
      obtain rfl : l32 = false := (AnyOrder.mem_ready hi).2.1
      obtain rfl : l31 = true := AnyOrder.dep (q := 0) hi rfl rfl rfl
      obtain rfl : l27 = true := AnyOrder.dep (q := 1) hi rfl rfl rfl
      clear hi
      simp only [sel_true, selv_true] at hK ⊢
      have hx := blk_keep (blk_drew HBX.out) HF.out
      have q0 : V.cell? ⟨gB, 0, none⟩ = _ := (blk_cell hx 0).trans rfl
      have q1 : V.cell? ⟨gB, 1, none⟩ = _ := (blk_cell hx 1).trans rfl
      refine AnyOrder.wpOp_go rfl (by rfl) ?_
      go_wp2_with fail
      exact ⟨l0, l1, l2, l3, l4, l5, l6, l7, l8, l9, l10, l11, l12, l13, l14, l15, l16, l17, l18, l19, l20, l21, l22, l23, l24, l25, l26, true, l28, l29, l30, true, true, l33, l34, l35, rfl, rfl, HF⟩
     ·
      obtain rfl : l33 = false := (AnyOrder.mem_ready hi).2.1
      obtain rfl : l28 = true := AnyOrder.dep (q := 0) hi rfl rfl rfl
      obtain rfl : l30 = true := AnyOrder.dep (q := 1) hi rfl rfl rfl
      obtain rfl : l32 = true := AnyOrder.dep (q := 2) hi rfl rfl rfl
      obtain rfl : l27 = true := AnyOrder.dep (q := 3) hi rfl rfl rfl
      clear hi
      simp only [sel_true, selv_true] at hK ⊢
      have hh := redpencillaw12_left.calls 1000 A0 c0 ll ((i : Int) + 1) x.f0.f0 x.f0.f1 0 true V (by rw [Hn.out]; exact Kd.C_below HCL.out (below_more (below_drew1 (Below.refl _ W7)) HF.out)) HC.out (holds_left HL.out Hb.out HVX.out)
      rw [Hn.out] at hh
      refine AnyOrder.wpOp_go rfl (by rfl) ?_
      go_wp2_with fail
      refine hh.mono ?_
      rintro e V' ⟨rfl, hb⟩
      exact hK _ _ ⟨l0, l1, l2, l3, l4, l5, l6, l7, l8, l9, l10, l11, l12, l13, l14, l15, l16, l17, l18, l19, l20, l21, l22, l23, l24, l25, l26, true, true, l29, true, l31, true, true, l34, l35, rfl, rfl, ⟨below_more HF.out hb⟩⟩
     ·
      obtain rfl : l34 = false := (AnyOrder.mem_ready hi).2.1
      obtain rfl : l33 = true := AnyOrder.dep (q := 0) hi rfl rfl rfl
      obtain rfl : l27 = true := AnyOrder.dep (q := 1) hi rfl rfl rfl
      clear hi
      simp only [sel_true, selv_true] at hK ⊢
      refine AnyOrder.wpOp_go rfl (by rfl) ?_
      go_wp2_with fail
      exact ⟨l0, l1, l2, l3, l4, l5, l6, l7, l8, l9, l10, l11, l12, l13, l14, l15, l16, l17, l18, l19, l20, l21, l22, l23, l24, l25, l26, true, l28, l29, l30, l31, l32, true, true, l35, rfl, rfl, HF⟩
     ·
      obtain rfl : l35 = false := (AnyOrder.mem_ready hi).2.1
      obtain rfl : l27 = true := AnyOrder.dep (q := 0) hi rfl rfl rfl
      obtain rfl : l34 = true := AnyOrder.dep (q := 1) hi rfl rfl rfl
      clear hi
      simp only [sel_true, selv_true] at hK ⊢
      refine AnyOrder.wpOp_go rfl (by rfl) ?_
      go_wp2_with fail
      exact ⟨l0, l1, l2, l3, l4, l5, l6, l7, l8, l9, l10, l11, l12, l13, l14, l15, l16, l17, l18, l19, l20, l21, l22, l23, l24, l25, l26, true, l28, l29, l30, l31, l32, l33, true, true, rfl, rfl, HF⟩
    case last =>
     rintro L ac V ⟨l0, l1, l2, l3, l4, l5, l6, l7, l8, l9, l10, l11, l12, l13, l14, l15, l16, l17, l18, l19, l20, l21, l22, l23, l24, l25, l26, l27, l28, l29, l30, l31, l32, l33, l34, l35, rfl, rfl, HF⟩ hr
     have hall := AnyOrder.all_listed rfl (by kernel_rfl) hr
     clear hr
     obtain rfl : l0 = true := hall 0 (by decide)
     obtain rfl : l1 = true := hall 1 (by decide)
     obtain rfl : l2 = true := hall 2 (by decide)
     obtain rfl : l3 = true := hall 3 (by decide)
     obtain rfl : l4 = true := hall 4 (by decide)
     obtain rfl : l5 = true := hall 5 (by decide)
     obtain rfl : l6 = true := hall 6 (by decide)
     obtain rfl : l7 = true := hall 7 (by decide)
     obtain rfl : l8 = true := hall 8 (by decide)
     obtain rfl : l9 = true := hall 9 (by decide)
     obtain rfl : l10 = true := hall 10 (by decide)
     obtain rfl : l11 = true := hall 11 (by decide)
     obtain rfl : l12 = true := hall 12 (by decide)
     obtain rfl : l13 = true := hall 13 (by decide)
     obtain rfl : l14 = true := hall 14 (by decide)
     obtain rfl : l15 = true := hall 15 (by decide)
     obtain rfl : l16 = true := hall 16 (by decide)
     obtain rfl : l17 = true := hall 17 (by decide)
     obtain rfl : l18 = true := hall 18 (by decide)
     obtain rfl : l19 = true := hall 19 (by decide)
     obtain rfl : l20 = true := hall 20 (by decide)
     obtain rfl : l21 = true := hall 21 (by decide)
     obtain rfl : l22 = true := hall 22 (by decide)
     obtain rfl : l23 = true := hall 23 (by decide)
     obtain rfl : l24 = true := hall 24 (by decide)
     obtain rfl : l25 = true := hall 25 (by decide)
     obtain rfl : l26 = true := hall 26 (by decide)
     obtain rfl : l27 = true := hall 27 (by decide)
     obtain rfl : l28 = true := hall 28 (by decide)
     obtain rfl : l29 = true := hall 29 (by decide)
     obtain rfl : l30 = true := hall 30 (by decide)
     obtain rfl : l31 = true := hall 31 (by decide)
     obtain rfl : l32 = true := hall 32 (by decide)
     obtain rfl : l33 = true := hall 33 (by decide)
     obtain rfl : l34 = true := hall 34 (by decide)
     obtain rfl : l35 = true := hall 35 (by decide)
     clear hall
     simp only [sel_true, selv_true]
     have HBE := Aside0.mk (below_more HB7.out (below_more (below_drew1 (Below.refl _ W7)) HF.out))
     have hn40 := HIN.out.2
     have hwi := HWI.out
     clear HF
     go_wp2
     go_roundw
     case rel => exact ⟨i + 1, by go_num, by omega, HBE⟩
     case measure => simp [intOf]; omega
   ·
    have HB := Aside0.mk (below_more HB.out HB5.out)
    clear H8
    by_cases hp0 : a1 < 0
    ·
     have hq1 : decide (a1 < 0) = true := decide_eq_true hp0
     clear hp0
     go_wp2_with fail
     refine (redpencillaw12_known.calls true _ rfl).mono ?_
     rintro e W3 ⟨rfl, hd⟩
     go_wp2
     go_ret
     exact ⟨rfl, below_more HB.out hd⟩
    have hq1 : decide (a1 < 0) = false := decide_eq_false hp0
    by_cases hp1 : a1 > (N : Int)
    ·
     have hq2 : decide (a1 > (N : Int)) = true := decide_eq_true hp1
     clear hp1
     go_wp2_with fail
     refine (redpencillaw12_known.calls true _ rfl).mono ?_
     rintro e W3 ⟨rfl, hd⟩
     go_wp2
     go_ret
     exact ⟨rfl, below_more HB.out hd⟩
    have hq2 : decide (a1 > (N : Int)) = false := decide_eq_false hp1
    obtain ⟨p, Hp⟩ : ∃ p : Nat, Aside0 (a1 = (p : Int) ∧ p ≤ N) := ⟨a1.toNat, ⟨by omega, by omega⟩⟩
    clear hp0 hp1
    obtain ⟨ds, Hds⟩ : ∃ ds, Aside0 ((visOf ll).map (·.f0) = ds) := ⟨_, ⟨rfl⟩⟩
    have HDL : Aside0 (ds.length = N) := ⟨by rw [← Hds.out, List.length_map, Hvs.out, HN.out]⟩
    have HD1 : Aside0 (index_Dots.f ll 0 a1 = some ((ds.take p).drop 0, 0)) := ⟨by
     have := holds_dots HL.out Hb.out (i := 0) (j := p) (Nat.zero_le _) (by rw [Hvs.out, HN.out]; exact Hp.out.2)
     rw [Hds.out] at this
     rw [Hp.out.1]
     exact this⟩
    have HD2 : Aside0 (index_Dots.f ll a1 (N : Int) = some ((ds.take N).drop p, 0)) := ⟨by
     have := holds_dots HL.out Hb.out (i := p) (j := N) Hp.out.2 (by rw [Hvs.out, HN.out]; exact Nat.le_refl _)
     rw [Hds.out] at this
     rw [Hp.out.1]
     exact this⟩
    have HD3 : Aside0 (redpencillaw12_dots.f 1000 ll 0 (N : Int) ((ds.take p).drop 0 ++ (ds.take N).drop p) 0 = some true) := ⟨by
     have := holds_both HL.out Hb.out (p := p) (by rw [Hvs.out, HN.out]; exact Hp.out.2)
     rwa [Hds.out, Hvs.out, HN.out] at this⟩
    obtain ⟨la, Hla⟩ : ∃ la, Aside0 ((ds.take p).drop 0 = la) := ⟨_, ⟨rfl⟩⟩
    obtain ⟨lb, Hlb⟩ : ∃ lb, Aside0 ((ds.take N).drop p = lb) := ⟨_, ⟨rfl⟩⟩
    have HLA : Aside0 (la.length = p) := ⟨by rw [← Hla.out, List.length_drop, List.length_take, HDL.out]; have := Hp.out.2; omega⟩
    have HLB : Aside0 (lb.length ≤ 40) := ⟨by rw [← Hlb.out, List.length_drop, List.length_take, HDL.out]; have := HNn.out; omega⟩
    rw [Hla.out] at HD1 HD3
    rw [Hlb.out] at HD2 HD3
    have hcall := index_Dots.calls A0 c0 ll 0 a1 la 0 wr (Kd.C_below HR.out HB.out) HC.out HD1.out
    rw [Hn.out] at hcall
    have HCALL := Aside0.mk hcall
    clear hcall
    go_wp2_with fail
    refine HCALL.out.mono ?_
    rintro e W6 ⟨v6, rfl, hr6, hb⟩
    have HB := Aside0.mk (below_more HB.out hb)
    obtain ⟨A6, c6, rfl⟩ := RD.slice hr6
    have HA := Aside0.mk (Kd.R_reads' hr6).2
    clear hb HCALL hr6
    rw [HLA.out] at HA ⊢
    have hcall := index_Dots.calls A0 c0 ll a1 (N : Int) lb 0 W6 (Kd.C_below HR.out HB.out) HC.out HD2.out
    rw [Hn.out] at hcall
    have HCALL := Aside0.mk hcall
    clear hcall
    go_wp2_with fail
    refine HCALL.out.mono ?_
    rintro e W7 ⟨v7, rfl, hr7, hb⟩
    have HB := Aside0.mk (below_more HB.out hb)
    obtain ⟨A7, c7, rfl⟩ := RD.slice hr7
    have HBV := Aside0.mk (Kd.R_reads' hr7).2.2
    have HA := Aside0.mk (Kd.C_below HA.out.2 hb)
    clear hb HCALL hr7
    obtain ⟨q, Hq⟩ : ∃ q, Aside0 (lb.length = q) := ⟨_, ⟨rfl⟩⟩
    rw [Hq.out] at HBV ⊢
    have hpp : a1 = (p : Int) := Hp.out.1
    subst hpp
    have HPQ : Aside0 (p ≤ 40 ∧ q ≤ 40) := ⟨by have h1 := Hp.out.2; have h2 := HNn.out; have h3 := HLB.out; have h4 := Hq.out; exact ⟨by omega, by omega⟩⟩
    go_wp2_with (first | (at_builtin; refine gate_guard (by rfl) ?_; dsimp only; refine app_dots W7 rfl (.const (.slice none 0 0)) (.tmp 165) rfl (.slice none 0 0) [] A6 la p c6 HLA.out rfl rfl (Kd.R_nil _ _ _ _ _) HA.out (Below.refl _ _) (by have := HPQ.out; simp; omega) ?_; intro v8 W8 hr8 hb8) | (at_builtin; refine gate_guard (by rfl) ?_; dsimp only; refine app_dots W7 rfl (.tmp 166) (.tmp 167) rfl v8 ([] ++ la) A7 lb q c7 Hq.out rfl rfl hr8 (Kd.C_below HBV.out hb8) hb8 (by have := HPQ.out; have := HLA.out; rw [List.nil_append]; omega) ?_; intro v9 W9 hr9 hb9) | fail)
    have HB := Aside0.mk (below_more HB.out hb9)
    obtain ⟨A9, c9, rfl⟩ := RD.slice hr9
    have H9 := (Kd.R_reads' hr9).2
    have hcall := redpencillaw12_dots.calls 1000 A0 c0 ll 0 (N : Int) A9 c9 ([] ++ la ++ lb) 0 true W9 (Kd.C_below HR.out HB.out) HC.out H9.2 H9.1 (by rw [List.nil_append]; exact HD3.out)
    rw [Hn.out] at hcall
    have HCALL := Aside0.mk hcall
    clear hcall hr8 hb8 hr9 hb9 H9
    refine HCALL.out.mono ?_
    rintro e W10 ⟨rfl, hb⟩
    have HB := Aside0.mk (below_more HB.out hb)
    clear hb HCALL
    go_wp2_with fail
    refine (redpencillaw12_known.calls true _ rfl).mono ?_
    rintro e W3 ⟨rfl, hd⟩
    go_wp2
    go_ret
    exact ⟨rfl, below_more HB.out hd⟩
end Go.Proofs.YtjlpaagnajmogaaDoor.PWalk
end
section
namespace Go.Proofs.YtjlpaagnajmogaaDoor.indexHolds
open Go.ChangeShapes Go.WideShapes Go.ChangeAt Go.RowKit
open Go.ChangeMaps (open_string shut_string)
open Go.Proofs.YtjlpaagnajmogaaDoorW.PrintWords
set_option linter.unusedVariables false
theorem six_of {α : Type} {cs : List α} (h : cs.length = 6) : ∃ c0 c1 c2 c3 c4 c5, cs = [c0, c1, c2, c3, c4, c5] := by
 match cs, h with
 | [a, b, c, d, e, f], _ => exact ⟨a, b, c, d, e, f, rfl⟩
theorem open_node {H : Type} {enc : TypeId × Value → H} {W : World} {base : Nat} {sp : Nat → Bool} {held : Bool} {fuel : Nat} {cs : List Value} {x : DataW H × List MemPlace} (h : DataW.trod enc Tryd.prog W base sp held fuel 37 cs = some x) :
  ∃ n : PWalk.Node, cs = PWalk.nodeCells n ∧ PWalk.runeIn n.f3 := by
 have e37 : Tryd.prog.cellsOf 37 = 6 := by kernel_rfl
 have e35 : Tryd.prog.cellsOf 35 = 2 := by kernel_rfl
 have e3 : Tryd.prog.cellsOf 3 = 1 := by kernel_rfl
 have e21 : Tryd.prog.cellsOf 21 = 1 := by kernel_rfl
 obtain ⟨y0, y1, y2, y3, n, rfl, hl, h0, h1, h2, h3⟩ := Go.Joins.trod_struct4 Tryd.underlying37 h
 rw [e37] at hl
 obtain ⟨c0, c1, c2, c3, c4, c5, rfl⟩ := six_of hl
 simp only [e35, e3, e21, List.drop_zero, List.drop_succ_cons, List.take_succ_cons, List.take_zero] at h0 h1 h2 h3
 obtain ⟨_, _, _, _, _, g0, g1⟩ := trod_struct2 Tryd.underlying35 h0
 obtain ⟨_, _, _, _, _, g2, g3⟩ := trod_struct2 Tryd.underlying35 h1
 simp only [e3, List.drop_zero, List.drop_succ_cons, List.take_succ_cons, List.take_zero] at g0 g1 g2 g3
 obtain ⟨k0, i0, _, _⟩ := DataW.trod_int Tryd.underlying3 g0
 obtain ⟨k1, i1, _, _⟩ := DataW.trod_int Tryd.underlying3 g1
 obtain ⟨k2, i2, _, _⟩ := DataW.trod_int Tryd.underlying3 g2
 obtain ⟨k3, i3, _, _⟩ := DataW.trod_int Tryd.underlying3 g3
 obtain ⟨k4, i4, _, _⟩ := DataW.trod_int Tryd.underlying3 h2
 obtain ⟨k5, i5, _, hw⟩ := DataW.trod_int Tryd.underlying21 h3
 simp only [List.cons.injEq, and_true] at i0 i1 i2 i3 i4 i5
 subst i0 i1 i2 i3 i4 i5
 refine ⟨⟨⟨k0, k1⟩, ⟨k2, k3⟩, k4, k5⟩, rfl, ?_⟩
 have hw2 : -2147483648 ≤ k5 ∧ k5 ≤ 2147483647 := by simpa [Lit.wf, IntKind.min, IntKind.max, IntKind.signed, IntKind.bits] using hw
 exact ⟨by show _ ≤ k5; omega, by show k5 ≤ _; omega⟩
/-- A []api.Node that came in, nil or not. -/
theorem open_nodes {H : Type} {enc : TypeId × Value → H} {W : World} {A : Option Addr} {len cap : Nat} {x : DataW H × List MemPlace} {fuel : Nat} (h : DataW.trod enc Tryd.prog W 0 (fun _ => true) true fuel 22 [.slice A len cap] = some x) :
  ∃ xs : List PWalk.Node, xs.length = len ∧ Kd.C PWalk.k37 W A len xs ∧ len ≤ cap ∧ ∀ n ∈ xs, PWalk.runeIn n.f3 := by
 have e37 : Tryd.prog.cellsOf 37 = 6 := by kernel_rfl
 rcases Go.Deep.open_slice Tryd.underlying22 h with ⟨hcs, _⟩ | ⟨a, len', cap', m, n, D, Pl, hcs, _, hl, hm, hmm, _, hx⟩
 ·
  simp at hcs
  obtain ⟨rfl, rfl, rfl⟩ := hcs
  exact ⟨[], rfl, ⟨rfl, by omega, fun hp => absurd hp (by omega)⟩, Nat.le_refl _, fun n hn => by cases hn⟩
 ·
  simp at hcs
  obtain ⟨rfl, rfl, rfl⟩ := hcs
  simp only [if_true] at hmm
  subst hmm
  rw [e37] at hx
  haveI : Inhabited PWalk.Node := ⟨⟨⟨0, 0⟩, ⟨0, 0⟩, 0, 0⟩⟩
  obtain ⟨N, hN⟩ := Go.Deep.choose_lt (α := PWalk.Node) (n := len) (p := fun i nd => PWalk.runeIn nd.f3 ∧ ∀ j u, (PWalk.nodeCells nd)[j]? = some u → W.cell? (a.add (i * 6 + j)) = some u) (fun i hi => by
   obtain ⟨cs', h1, h2⟩ := hx i (by omega)
   obtain ⟨nd, rfl, hr⟩ := open_node h2
   refine ⟨nd, hr, fun j u hu => ?_⟩
   obtain ⟨_, hlen, hc⟩ := World.cells?_some h1
   have hj : j < 6 := (List.getElem?_eq_some_iff.1 hu).1
   rw [← Addr.add_add a (i * 6) j]
   rw [← hu]
   exact hc j (by simpa using hj))
  refine ⟨(List.range len).map N, by simp, ⟨by simp, Nat.le_trans hl hm, fun hp => ⟨a, rfl, fun i nd hi => ?_⟩⟩, hl, fun nd hnd => ?_⟩
  ·
   have hil : i < len := by simpa using (List.getElem?_eq_some_iff.1 hi).1
   have hnd : nd = N i := by simpa [hil] using hi.symm
   subst hnd
   refine ⟨PWalk.nodeCells (N i), rfl, PWalk.k37.K_of_M (PWalk.k37_mkM W 0 (fun _ => True) (N i)), fun j u hu => (hN i hil).2 j u hu⟩
  ·
   obtain ⟨i, hi, rfl⟩ := List.mem_map.1 hnd
   exact (hN i (by simpa using hi)).1
theorem own : ownKnob Tryd.prog.godebug = none := by kernel_rfl
theorem laidOut : laidOutB Tryd.prog = true := by kernel_rfl
set_option maxRecDepth 100000 in
theorem accept_is : (Rows.laid_unicode_utf8_acceptRanges : DataW Unit) = Lib.acceptData := by kernel_rfl
theorem tabs_of_laid {W : World} (hL : laidMetH Tryd.prog Rows.indexHoldsRow.laid W) : PWalk.Tabs W := by
 rw [MakeChecks.laidMetH_plain _ _ _ (by kernel_rfl)] at hL
 have h4 : Lib.VarReads Tryd.prog W "unicode/utf8.acceptRanges" Rows.laid_unicode_utf8_acceptRanges := Lib.laidMet.reads hL (.head _)
 have h3 : Lib.VarReads Tryd.prog W "unicode/utf8.first" Pinned.utf8First := Lib.laidMet.reads hL (.tail _ (.head _))
 rw [accept_is] at h4
 rw [Pinned.utf8First_eq] at h3
 exact utf8Tabs_of_readsT (U8Types.of196 Tryd.laysValid) ⟨by kernel_rfl, by kernel_rfl, by kernel_rfl, by kernel_rfl, by kernel_rfl, by kernel_rfl, by kernel_rfl⟩ h3 h4
set_option maxRecDepth 100000 in
set_option maxHeartbeats 2000000 in
theorem lifted (os : Os) (started : os.Started) (H : Type) (enc : TypeId × Value → H) :
  ReturnsInHanded {} Tryd.checked os 7 .any (fun w args => (Rows.indexHoldsSpec.pre enc Tryd.prog Tryd.f7 Rows.indexHoldsRow.domain false w args ∧ laidMetH Tryd.prog Rows.indexHoldsRow.laid w) ∧ sizedMet enc Tryd.prog Tryd.f7 (OpenSpec.ofChange Rows.indexHoldsSpec) false w args)
   (Rows.indexHoldsSpec.post enc Tryd.prog Tryd.f7 false true false false) := by
 refine returnsInHanded_of_change_and (C := Tryd.checked) (X := fun w _ => laidMetH Tryd.prog Rows.indexHoldsRow.laid w) (fun _ _ _ hh h => h.of_heap hh) own started (by kernel_rfl) Tryd.func7
  (ChangeSpec.witness_shaped (enc := enc) (C := Tryd.checked) (os := os) (X := fun w _ => laidMetH Tryd.prog Rows.indexHoldsRow.laid w) false (World.laidAll Tryd.prog os Rows.indexHoldsRow.laid) #[.slice none 0 0, .int .i64 0] 8 (World.laidAll_os _ _ _)
   (World.shaped_of_ZipB (by kernel_rfl) (by kernel_rfl)) (by kernel_rfl) (by kernel_rfl) (by kernel_rfl)
   (by rw [MakeChecks.laidMetH_plain _ _ _ (by kernel_rfl)]; exact laidMet_laidAll _ (by kernel_rfl) (by kernel_rfl))) ?_
 intro W base args ds gs before hval0 hW _ _ hL hsz0
 have hval : ∀ (j : Nat) t v, Tryd.f7.params[j]? = some t → args[j]? = some v → Value.okWide Tryd.prog W .any base t v := hval0
 have hW' := hW
 obtain ⟨p, q, hA0, hV, rfl, hfz, hnd⟩ := hW
 have hA : DataW.TrodAll enc Tryd.prog W 0 (fun _ => true) true Tryd.f7.params.toList args.toList ds p := hA0
 rw [Tryd.params7] at hA hval
 obtain ⟨v0, vs0, d0, ds0, p0, q0, hargs, rfl, rfl, h0, r0⟩ := trodAll_cons hA
 obtain ⟨v1, vs1, d1, ds1, p1, q1, rfl, rfl, rfl, h1, r1⟩ := trodAll_cons r0
 obtain ⟨rfl, rfl, rfl⟩ := trodAll_nil r1
 obtain rfl : args = #[v0, v1] := by cases args; simp_all
 obtain ⟨rfl, rfl⟩ := trodVars_none hV
 obtain ⟨A0, len0, cap0, rfl⟩ := okWide_slice Tryd.underlying22 (hval 0 22 v0 rfl rfl)
 have k0 := h0
 have lt0 : ∀ x ∈ p0, x.block < W.heap.size := by obtain ⟨m, hm⟩ := k0; exact DataW.trod_lt m _ _ _ hm
 obtain ⟨f0, hf0⟩ := h0
 obtain ⟨xs0, rfl, hr0, hc0, hi0⟩ := open_nodes hf0
 obtain ⟨a1, rfl, rfl, rfl, w1⟩ := open_int Tryd.underlying3 (hval 1 3 v1 rfl rfl) h1
 clear hA0 hval0 hsz0
 refine (PWalk.IndexHolds.walk A0 cap0 xs0 W hr0 hc0 hi0 a1 w1 (tabs_of_laid hL)).mono fun e W' ⟨he, bel⟩ => ?_
 subst he
 exact ⟨_, rfl, _, _, _, [], _, [], hW', trodAll_mk1 (shut_bool Tryd.underlying4 _), (trodAll_cons_mk (Below.trod laidOut (by kernel_rfl) (of_decide_eq_true (by kernel_rfl)) k0 bel lt0) (trodAll_cons_mk (shut_int Tryd.underlying3 w1) trodAll_mk0)), rfl, bel.frame _, fun h => by cases h⟩
theorem over : Rows.indexHoldsRow.holds Tryd.pinned (OpenSpec.ofChange Rows.indexHoldsSpec) :=
 OpenClaim.holds_of_wide 7 Tryd.f7 rfl rfl rfl rfl rfl rfl rfl ⟨rfl, rfl, rfl, rfl, rfl⟩ rfl rfl rfl rfl rfl (by kernel_rfl) Tryd.func7 (by kernel_rfl)
  (of_decide_eq_true (by kernel_rfl)) (by unfold Func.isWrapper; first | (rw [if_pos (by decide +kernel)]; kernel_rfl) | (rw [if_neg (by decide +kernel)]; exact ⟨rfl, rfl⟩))
  (fun os started H enc _ => lifted os started H enc)
theorem proved : Rows.IndexHoldsCardSaid :=
 Claim7.holds_tied_plain_at .later [] [.data, .pinned] true (true, "4b3c2fc672e1ddab459379ba8d5df2e09ad50246d42292bdc1d1be274add93db") false
  over (fun _ h => by cases h) (by kernel_rfl) (fun _ h => by cases h) indexHolds_row_tie rfl ⟨rfl, rfl⟩ (by kernel_rfl) rfl
  (fun f fn hf hfn => by
   obtain rfl : f = 7 := Option.some.inj ((show Tryd.prog.funcNamed "redpencil/redpencillaw12.IndexHolds" = some 7 by kernel_rfl).symm.trans hf) |>.symm
   obtain rfl : fn = Tryd.f7 := (Option.some.inj (Tryd.func7.symm.trans hfn)).symm
   exact ⟨by kernel_rfl, fun j t ht => by
    rw [Tryd.params7] at ht
    have hm : t ∈ [22, 3] := by simpa using Array.mem_of_getElem? ht
    have hall : ([22, 3].all fun u => !Tryd.prog.wantsStandIn u) = true := by kernel_rfl
    exact (show Tryd.prog.wantsStandIn t = false by simpa using List.all_eq_true.1 hall t hm)⟩)
  (by kernel_rfl)
#print axioms proved
end Go.Proofs.YtjlpaagnajmogaaDoor.indexHolds
end
