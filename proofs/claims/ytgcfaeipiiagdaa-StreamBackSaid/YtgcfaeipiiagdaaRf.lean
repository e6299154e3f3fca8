/-
  Laws of our own on worlds ('Keep': which blocks lie as they lay) and on a range over a function whose iterator has state of its own in memory. No program in sight.
-/
import Derived.RangeFuncNested
import Derived.RangeFuncBound
import Derived.RangeFuncCalls
import Derived.RangeFuncLeaves
namespace Go.Proofs.Ytgcfaeipiiagdaa
open Go.RowKit

/-- The blocks of S that lay in w lie in w' as they lay; no block has gone; the streams are as they were. -/
structure Keep (S : Nat → Prop) (w w' : World) : Prop where
  os : w'.os = w.os
  tape : w'.tape = w.tape
  output : w'.output = w.output
  size : w.heap.size ≤ w'.heap.size
  block : ∀ k, S k → k < w.heap.size → w'.heap[k]? = w.heap[k]?

namespace Keep
variable {S T : Nat → Prop} {a b c w w' : World}
theorem refl (S : Nat → Prop) (w : World) : Keep S w w := ⟨rfl, rfl, rfl, Nat.le_refl _, fun _ _ _ => rfl⟩
theorem trans (h : Keep S a b) (k : Keep S b c) : Keep S a c :=
  ⟨k.os.trans h.os, k.tape.trans h.tape, k.output.trans h.output, Nat.le_trans h.size k.size, fun i hi hl => (k.block i hi (Nat.lt_of_lt_of_le hl h.size)).trans (h.block i hi hl)⟩
theorem mono (h : Keep S a b) (hs : ∀ k, T k → k < a.heap.size → S k) : Keep T a b := ⟨h.os, h.tape, h.output, h.size, fun k hk hl => h.block k (hs k hk hl) hl⟩
theorem drew (h : Keep S a w) : Keep S a w.drew := ⟨h.os, h.tape, h.output, h.size, h.block⟩
theorem alloc (h : Keep S a w) (o : Obj) : Keep S a (w.alloc o) :=
  h.trans ⟨rfl, rfl, rfl, by simp, fun k _ hl => Below.heap_alloc _ _ _ hl⟩
/-- A store into a block that is not of S, or that is new. -/
theorem setCell (h : Keep S a w) {p : Addr} (hp : S p.block → a.heap.size ≤ p.block) (u : Value) : Keep S a (w.setCell p u) :=
  ⟨h.os, h.tape, h.output, by have := h.size; simp [World.setCell]; exact this, fun k hk hl => by
    refine (Below.heap_setCell _ _ _ _ ?_).trans (h.block k hk hl)
    rintro rfl
    exact absurd hl (Nat.not_lt.2 (hp hk))⟩
theorem putObj (h : Keep S a w) {l : Nat} (hp : S l → a.heap.size ≤ l) (o : Obj) : Keep S a (w.putObj l o) :=
  ⟨h.os, h.tape, h.output, by rw [World.putObj_size]; exact h.size, fun k hk hl => by
    refine (World.putObj_heap_other ?_).trans (h.block k hk hl)
    rintro rfl
    exact absurd hl (Nat.not_lt.2 (hp hk))⟩
theorem below (h : Below a.heap.size a b) : Keep S a b := ⟨h.os, h.tape, h.output, h.size, fun k _ hl => h.block k hl⟩
/-- A call that leaves all that lay as it lay. -/
theorem call (h : Keep S a b) (k : Below b.heap.size b c) : Keep S a c := h.trans (.below k)
theorem toBelow (h : Keep S a b) (hs : ∀ k, k < a.heap.size → S k) : Below a.heap.size a b := ⟨h.os, h.tape, h.output, h.size, fun k hk => h.block k (hs k hk) hk⟩
theorem heap (h : Keep S a b) {k : Nat} {o : Obj} (hk : S k) (ho : a.heap[k]? = some o) : b.heap[k]? = some o := (h.block k hk (Array.getElem?_eq_some_iff.1 ho).1).trans ho
theorem cell (h : Keep S a b) {p : Addr} {v : Value} (hp : S p.block) (hc : a.cell? p = some v) : b.cell? p = some v := by
  obtain ⟨o, ho, _⟩ := cells_of_cell hc
  exact (World.cell?_of_block (h.block _ hp (Array.getElem?_eq_some_iff.1 ho).1)).trans hc
theorem frozen (h : Keep S a b) {p : Addr} {v : Value} (hp : S p.block) (hc : a.cell? p = some v) : b.frozen? p = a.frozen? p := by
  obtain ⟨o, ho, _⟩ := cells_of_cell hc
  exact World.frozen?_of_block (h.block _ hp (Array.getElem?_eq_some_iff.1 ho).1)
end Keep

theorem below_seq {a b c : World} (h : Below a.heap.size a b) (k : Below b.heap.size b c) : Below a.heap.size a c := h.trans (k.mono h.size)
theorem below_putObj {B : Nat} {a w : World} (h : Below B a w) {l : Nat} (hl : B ≤ l) (o : Obj) : Below B a (w.putObj l o) :=
  ⟨h.os, h.tape, h.output, by rw [World.putObj_size]; exact h.size, fun k hk => (World.putObj_heap_other (by omega)).trans (h.block k hk)⟩
theorem heap_setCell_other {w : World} {k : Nat} {o : Obj} (h : w.heap[k]? = some o) (a : Addr) (hne : k ≠ a.block) (v : Value) : (w.setCell a v).heap[k]? = some o := (Below.heap_setCell _ _ _ _ hne).trans h
theorem cell_putObj {w : World} {a : Addr} {v : Value} (h : w.cell? a = some v) {l : Nat} (hne : a.block ≠ l) (o : Obj) : (w.putObj l o).cell? a = some v := (World.cell?_of_block (World.putObj_heap_other hne)).trans h

/-- What is said hangs on the blocks of S alone. -/
def Stable {β : Type} (S : Nat → Prop) (I : β → World → Prop) : Prop := ∀ s A B, I s A → Keep S A B → I s B

/-- A call of yield. -/
def YieldW (P : Program) (l : Nat) (args : Array Value) (W : World) (R : Ending → World → Prop) : Prop :=
  ∃ fn tmps assign body, (Instr.yield l args).run P W = .ok (.round l fn tmps assign body) W ∧ ∀ m, RoundIn Fence.wide m P l fn tmps assign body W R

/-- AN ITERATOR THAT HANDS OUT xs: its own state lies in the blocks of priv; the rounds keep the blocks of need. -/
def SeqK {α : Type} (P : Program) (g : Nat) (lb : Array Value) (encs : α → Array Value) (xs : List α) (priv need : Nat → Prop) (w : World) : Prop :=
  ∀ (l : Nat) (J Jx : List α → World → Prop) (W : World), Keep need w W → Stable (fun k => ¬ priv k) J → Stable (fun k => ¬ priv k) Jx →
    (∀ pre x rest, xs = pre ++ x :: rest → ∀ W1, J pre W1 → YieldW P l (encs x) W1 fun e W' =>
      (e = .returned (.bool true) ∧ J (pre ++ [x]) W' ∧ Keep need W1 W') ∨ (e = .returned (.bool false) ∧ Jx (pre ++ [x]) W')) →
    J [] W →
    Calls P g (#[.func (.yield l) #[] #[]] ++ lb) W fun e W' => (∃ v, e = .returned v) ∧ (J xs W' ∨ ∃ pre suf, pre ++ suf = xs ∧ Jx pre W')

/-- HOW THE BODY OF A ROUND MAY BE LEFT. -/
def keepPost {α : Type} (mine : Nat → Prop) (I : List α → World → Prop) (Ix : Code → List α → World → Prop) (xs : List α) (W : World) : Exit → Act → World → Prop
  | .normal, _, W' => Keep (fun k => ¬ mine k) W W' ∧ I xs W'
  | .ret, _, W' => Keep (fun k => ¬ mine k) W W' ∧ Ix .ret xs W'
  | .exit id, _, W' => Keep (fun k => ¬ mine k) W W' ∧ Ix (.exit id) xs W'
  | .goto t, _, W' => Keep (fun k => ¬ mine k) W W' ∧ Ix (.goto t) xs W'
  | .panic _, _, _ => False
  | .outgrown, _, _ => False

variable {P : Program}

/-- THE STATEMENT 'for x := range it { body }', outside every round. 'mine': the blocks that the body may write; I: what holds between two rounds. -/
theorem wp_range {α : Type} {g : Operand} {ps : Array Tmp} {assign body : Code} {Q : Exit → Act → World → Prop} {a : Act} {w : World} {n : Nat}
    {gf : Nat} {lb : Array Value} (hg : a.eval g = .func (.func gf) #[] lb) (eg : ∀ args w, (callFunc gf args).run P w = .ok (.enter gf args) w)
    {encs : α → Array Value} {xs : List α} {priv need : Nat → Prop} (hseq : SeqK P gf lb encs xs priv need w)
    (hpriv : ∀ k, priv k → k < w.heap.size) (hneed : ∀ k, need k → k < w.heap.size) (hps : ∀ x, (encs x).size = ps.size)
    (mine : Nat → Prop) (hmine : ∀ k, mine k → k < w.heap.size ∧ ¬ need k)
    (I : List α → World → Prop) (Ix : Code → List α → World → Prop)
    (hI : Stable (fun k => ¬ priv k ∧ k ≠ w.heap.size ∧ k ≠ w.heap.size + 1) I) (hIx : ∀ c, Stable (fun k => ¬ priv k ∧ k ≠ w.heap.size ∧ k ≠ w.heap.size + 1) (Ix c)) (h0 : I [] w)
    (hbody : ∀ (l : Nat) (pre : List α) (x : α) (rest : List α) (W : World), xs = pre ++ x :: rest → w.heap.size + 2 ≤ W.heap.size → I pre W →
      assign.wpIn (Fence.wide.inRound l) n P (Exit.then (fun a₁ W2 => Keep (fun k => ¬ mine k) W W2 ∧ ∀ W3, Keep (fun k => k ≠ w.heap.size + 1) W2 W3 → W3.heap.size = W2.heap.size →
          body.wpIn (Fence.wide.inRound l) n P (keepPost mine I Ix (pre ++ [x]) W3) a₁ W3) (fun _ _ _ => False))
        { tmps := (ps.zip (encs x)).foldl (fun t (p, v) => t.setIfInBounds p v) a.tmps, defers := [] } W)
    (hdone : ∀ (W : World), I xs W → w.heap.size + 2 ≤ W.heap.size → W.heap[w.heap.size]? = some (.deferred (some [])) → Q .normal { a with defers := { target := .collected w.heap.size, args := #[] } :: a.defers } W)
    (hstop : ∀ (c : Code) (pre suf : List α) (W : World), pre ++ suf = xs → Ix c pre W → w.heap.size + 2 ≤ W.heap.size → W.heap[w.heap.size]? = some (.deferred (some [])) →
      c.wpIn Fence.wide n P Q { a with defers := { target := .collected w.heap.size, args := #[] } :: a.defers } W) :
    (Code.rangeFunc g ps assign body).wpIn Fence.wide n P Q a w := by
  refine wpIn_rangeFunc ?_
  intro fn hfn
  rw [show Fence.wide.round = none from rfl]
  obtain ⟨rec, hrec⟩ : ∃ rec : LoopState → Option Code → Loop, rec = fun st pe => { state := st, pending := pe, fn, tmps := a.tmps, params := ps, assign, body, defers := w.heap.size } := ⟨_, rfl⟩
  obtain ⟨W1, hW1⟩ : ∃ W1, (w.alloc (.deferred (some []))).alloc (.loop (rec .ready none)) = W1 := ⟨_, rfl⟩
  have hL1 : W1.heap[w.heap.size + 1]? = some (.loop (rec .ready none)) := by
    rw [← hW1]; have := World.alloc_heap_new (w.alloc (.deferred (some []))) (.loop (rec .ready none)); rwa [World.size_alloc] at this
  have hK1 : W1.heap[w.heap.size]? = some (.deferred (some [])) := by
    rw [← hW1]; exact (Below.heap_alloc _ _ _ (by simp)).trans (World.alloc_heap_new w _)
  have hk1 : Keep (fun _ => True) w W1 := by rw [← hW1]; exact ((Keep.refl _ _).alloc _).alloc _
  have hs1 : W1.heap.size = w.heap.size + 2 := by rw [← hW1]; simp
  have hI1 : I [] W1 := hI _ _ _ h0 (hk1.mono fun _ _ _ => trivial)
  refine ⟨w.heap.size + 1, [{ target := .collected w.heap.size, args := #[] }], W1, { target := .fn (.func gf) lb, args := #[.func (.yield (w.heap.size + 1)) #[] #[]] }, W1, gf,
    #[.func (.yield (w.heap.size + 1)) #[] #[]] ++ lb, W1, ?_, ?_, ?_, ?_, fun h => (by cases h), ?_⟩
  · rw [← hW1, hrec]; exact run_enterLoop_outer _ _ _ _ _
  · simp only [resolve, hg]
    simp [go_sem]
  · intro f' _; trivial
  · simp [invoke, go_sem, eg]
  · have hnp : ∀ k, w.heap.size ≤ k → ¬ priv k := fun k hk hp => by have := hpriv k hp; omega
    have hnm : ∀ k, w.heap.size ≤ k → ¬ mine k := fun k hk hp => by have := (hmine k hp).1; omega
    -- what a round, or the iterator, leaves of the two blocks
    refine callsIn_wide.2 ((hseq (w.heap.size + 1)
      (fun pre W => I pre W ∧ w.heap.size + 2 ≤ W.heap.size ∧ W.heap[w.heap.size + 1]? = some (.loop (rec .ready none)) ∧ W.heap[w.heap.size]? = some (.deferred (some [])))
      (fun pre W => ∃ c, Ix c pre W ∧ w.heap.size + 2 ≤ W.heap.size ∧ W.heap[w.heap.size + 1]? = some (.loop (rec .done (some c))) ∧ W.heap[w.heap.size]? = some (.deferred (some [])))
      W1 (hk1.mono fun _ _ _ => trivial)
      (fun s A B hs hk => ⟨hI s A B hs.1 (hk.mono fun k h _ => h.1), Nat.le_trans hs.2.1 hk.size, hk.heap (hnp _ (by omega)) hs.2.2.1, hk.heap (hnp _ (by omega)) hs.2.2.2⟩)
      (fun s A B hs hk => by
        obtain ⟨c, hc, hz, hl, hd⟩ := hs
        exact ⟨c, hIx c s A B hc (hk.mono fun k h _ => h.1), Nat.le_trans hz hk.size, hk.heap (hnp _ (by omega)) hl, hk.heap (hnp _ (by omega)) hd⟩)
      ?_ ⟨hI1, by omega, hL1, hK1⟩).mono ?_)
    · rintro pre x rest hxs W ⟨hi, hz, hl, hd⟩
      have hy := run_yield (P := P) (args := encs x) hl (by rw [hrec]; exact hps x)
      rw [hrec] at hy
      refine ⟨fn, _, assign, body, hy, fun m => ?_⟩
      suffices hR : RoundIn Fence.wide n P (w.heap.size + 1) fn ((ps.zip (encs x)).foldl (fun t (p, v) => t.setIfInBounds p v) a.tmps) assign body W _ from ⟨hR.1, fun c cs _ => hR.2 c cs (room_wide _)⟩
      refine roundIn_of_wpIn hfn (wpIn_mono (hbody (w.heap.size + 1) pre x rest W hxs hz hi) ?_)
      rintro e a₁ W2 hp
      cases e with
      | normal =>
        obtain ⟨hk2, hnext⟩ := hp
        have hl2 := hk2.heap (hnm _ (by omega)) hl
        have hd2 := hk2.heap (hnm _ (by omega)) hd
        have hz2 := Nat.le_trans hz hk2.size
        refine ⟨_, run_beginRound hl2 (by rw [hrec]), ?_⟩
        have hl3 : (W2.putObj (w.heap.size + 1) (.loop { rec .ready none with state := .busy })).heap[w.heap.size + 1]? = some (.loop { rec .ready none with state := .busy }) := World.putObj_heap_same (Array.getElem?_eq_some_iff.1 hl2).1
        have hd3 : (W2.putObj (w.heap.size + 1) (.loop { rec .ready none with state := .busy })).heap[w.heap.size]? = some (.deferred (some [])) := (World.putObj_heap_other (by omega)).trans hd2
        have hk3 : Keep (fun k => k ≠ w.heap.size + 1) W2 (W2.putObj (w.heap.size + 1) (.loop { rec .ready none with state := .busy })) := (Keep.refl _ _).putObj (fun h => absurd rfl h) _
        refine wpIn_mono (hnext _ hk3 World.putObj_size) ?_
        have fin : ∀ (jump : Option Code) (W3 : World), Keep (fun k => ¬ mine k) (W2.putObj (w.heap.size + 1) (.loop { rec .ready none with state := .busy })) W3 →
            (Instr.endRound (w.heap.size + 1) jump).run P W3 = .ok (.bool jump.isNone) (W3.putObj (w.heap.size + 1) (.loop (rec (if jump.isNone then .ready else .done) jump))) ∧
            Keep (fun k => k ≠ w.heap.size + 1) W3 (W3.putObj (w.heap.size + 1) (.loop (rec (if jump.isNone then .ready else .done) jump))) ∧
            w.heap.size + 2 ≤ (W3.putObj (w.heap.size + 1) (.loop (rec (if jump.isNone then .ready else .done) jump))).heap.size ∧
            (W3.putObj (w.heap.size + 1) (.loop (rec (if jump.isNone then .ready else .done) jump))).heap[w.heap.size + 1]? = some (.loop (rec (if jump.isNone then .ready else .done) jump)) ∧
            (W3.putObj (w.heap.size + 1) (.loop (rec (if jump.isNone then .ready else .done) jump))).heap[w.heap.size]? = some (.deferred (some [])) ∧
            Keep need W (W3.putObj (w.heap.size + 1) (.loop (rec (if jump.isNone then .ready else .done) jump))) := fun jump W3 hk4 => by
          have hl4 := hk4.heap (hnm _ (by omega)) hl3
          have hd4 := hk4.heap (hnm _ (by omega)) hd3
          have := run_endRound (P := P) jump hl4
          have hz3 : w.heap.size + 2 ≤ W3.heap.size := by have := hk4.size; rw [World.putObj_size] at this; omega
          rw [hrec] at this ⊢
          refine ⟨this, (Keep.refl _ _).putObj (fun h => absurd rfl h) _, by rw [World.putObj_size]; exact hz3, World.putObj_heap_same (Array.getElem?_eq_some_iff.1 hl4).1, (World.putObj_heap_other (by omega)).trans hd4, ?_⟩
          have e1 : Keep need W W2 := hk2.mono fun k hn _ hm => (hmine k hm).2 hn
          have e2 : Keep need W2 W3 := (hk3.mono fun k hn _ => by have := hneed k hn; omega).trans (hk4.mono fun k hn _ hm => (hmine k hm).2 hn)
          exact (e1.trans e2).putObj (fun hn => by have := hneed _ hn; omega) _
        rintro e a3 W3 hp
        have stab : ∀ (c : Option Code) {W4 : World}, Keep (fun k => k ≠ w.heap.size + 1) W3 W4 → Keep (fun k => ¬ priv k ∧ k ≠ w.heap.size ∧ k ≠ w.heap.size + 1) W3 W4 := fun _ _ hk => hk.mono fun k h _ => h.2.2
        cases e with
        | normal =>
          obtain ⟨hk4, hi4⟩ := hp
          obtain ⟨hr, hk5, hz5, hl5, hd5, hn5⟩ := fin none W3 hk4
          exact ⟨_, _, hr, .inl ⟨rfl, ⟨hI _ _ _ hi4 (stab none hk5), hz5, hl5, hd5⟩, hn5⟩⟩
        | ret =>
          obtain ⟨hk4, hi4⟩ := hp
          obtain ⟨hr, hk5, hz5, hl5, hd5, hn5⟩ := fin (some .ret) W3 hk4
          exact ⟨_, _, hr, .inr ⟨rfl, .ret, hIx _ _ _ _ hi4 (stab none hk5), hz5, hl5, hd5⟩⟩
        | exit id =>
          obtain ⟨hk4, hi4⟩ := hp
          obtain ⟨hr, hk5, hz5, hl5, hd5, hn5⟩ := fin (some (.exit id)) W3 hk4
          exact ⟨_, _, hr, .inr ⟨rfl, .exit id, hIx _ _ _ _ hi4 (stab none hk5), hz5, hl5, hd5⟩⟩
        | goto t =>
          obtain ⟨hk4, hi4⟩ := hp
          obtain ⟨hr, hk5, hz5, hl5, hd5, hn5⟩ := fin (some (.goto t)) W3 hk4
          exact ⟨_, _, hr, .inr ⟨rfl, .goto t, hIx _ _ _ _ hi4 (stab none hk5), hz5, hl5, hd5⟩⟩
        | panic ch => exact hp.elim
        | outgrown => exact hp.elim
      | ret => exact hp.elim
      | exit id => exact hp.elim
      | goto t => exact hp.elim
      | panic ch => exact hp.elim
      | outgrown => exact hp.elim
    · rintro e W2 ⟨⟨v, rfl⟩, (⟨hi, hz, hl, hd⟩ | ⟨pre, suf, hps', c, hi, hz, hl, hd⟩)⟩
      · have hk5 : ∀ o, Keep (fun k => ¬ priv k ∧ k ≠ w.heap.size ∧ k ≠ w.heap.size + 1) W2 (W2.putObj (w.heap.size + 1) o) := fun o => (Keep.refl _ _).putObj (fun h => absurd rfl h.2.2) _
        exact ⟨none, _, by have := run_endLoop (P := P) hl (by rw [hrec]; simp); rw [hrec] at this; exact this, hdone _ (hI _ _ _ hi (hk5 _)) (by rw [World.putObj_size]; exact hz) ((World.putObj_heap_other (by omega)).trans hd)⟩
      · have hk5 : ∀ o, Keep (fun k => ¬ priv k ∧ k ≠ w.heap.size ∧ k ≠ w.heap.size + 1) W2 (W2.putObj (w.heap.size + 1) o) := fun o => (Keep.refl _ _).putObj (fun h => absurd rfl h.2.2) _
        exact ⟨some c, _, by have := run_endLoop (P := P) hl (by rw [hrec]; simp); rw [hrec] at this; exact this, hstop c pre suf _ hps' (hIx c _ _ _ hi (hk5 _)) (by rw [World.putObj_size]; exact hz) ((World.putObj_heap_other (by omega)).trans hd)⟩

end Go.Proofs.Ytgcfaeipiiagdaa
