/-
  The law of range-over-func once more, for iterators that make memory of their own, and that tell something at their end.
-/
import Derived.Test.YtgcfaeipiiagdaaRf
namespace Go.Proofs.Ytgcfaeipiiagdaa
open Go.RowKit

/-- AN ITERATOR THAT HANDS OUT xs: as SeqK, but 'need' may name blocks that it makes itself, and 'fin' holds of its own blocks at the end. -/
def SeqF {α : Type} (P : Program) (g : Nat) (lb : Array Value) (encs : α → Array Value) (xs : List α) (priv need : Nat → Prop) (fin : World → Prop) (w : World) : Prop :=
  ∀ (l : Nat) (J Jx : List α → World → Prop) (W : World), Keep need w W → w.heap.size + 2 ≤ W.heap.size → Stable (fun k => ¬ priv k) J → Stable (fun k => ¬ priv k) Jx →
    (∀ pre x rest, xs = pre ++ x :: rest → ∀ W1, J pre W1 → YieldW P l (encs x) W1 fun e W' =>
      (e = .returned (.bool true) ∧ J (pre ++ [x]) W' ∧ Keep need W1 W') ∨ (e = .returned (.bool false) ∧ Jx (pre ++ [x]) W')) →
    J [] W →
    Calls P g (#[.func (.yield l) #[] #[]] ++ lb) W fun e W' => (∃ v, e = .returned v) ∧ ((J xs W' ∧ fin W') ∨ ∃ pre suf, pre ++ suf = xs ∧ Jx pre W')

variable {P : Program}

/-- THE STATEMENT 'for x := range it { body }', outside every round. 'mine': the blocks that the body may write; I: what holds between two rounds. -/
theorem wp_rangeF {α : Type} {g : Operand} {ps : Array Tmp} {assign body : Code} {Q : Exit → Act → World → Prop} {a : Act} {w : World} {n : Nat}
    {gf : Nat} {lb : Array Value} (hg : a.eval g = .func (.func gf) #[] lb) (eg : ∀ args w, (callFunc gf args).run P w = .ok (.enter gf args) w)
    {encs : α → Array Value} {xs : List α} {priv need : Nat → Prop} {fin : World → Prop} (hseq : SeqF P gf lb encs xs priv need fin w)
    (hpriv : ∀ k, priv k → k < w.heap.size) (hneed : ∀ k, need k → k ≠ w.heap.size + 1) (hfin : ∀ A B, fin A → Keep (fun k => k ≠ w.heap.size + 1) A B → fin B) (hps : ∀ x, (encs x).size = ps.size)
    (mine : Nat → Prop) (hmine : ∀ k, mine k → k < w.heap.size ∧ ¬ need k)
    (I : List α → World → Prop) (Ix : Code → List α → World → Prop)
    (hI : Stable (fun k => ¬ priv k ∧ k ≠ w.heap.size ∧ k ≠ w.heap.size + 1) I) (hIx : ∀ c, Stable (fun k => ¬ priv k ∧ k ≠ w.heap.size ∧ k ≠ w.heap.size + 1) (Ix c)) (h0 : I [] w)
    (hbody : ∀ (l : Nat) (pre : List α) (x : α) (rest : List α) (W : World), xs = pre ++ x :: rest → w.heap.size + 2 ≤ W.heap.size → I pre W →
      assign.wpIn (Fence.wide.inRound l) n P (Exit.then (fun a₁ W2 => Keep (fun k => ¬ mine k) W W2 ∧ ∀ W3, Keep (fun k => k ≠ w.heap.size + 1) W2 W3 → W3.heap.size = W2.heap.size →
          body.wpIn (Fence.wide.inRound l) n P (keepPost mine I Ix (pre ++ [x]) W3) a₁ W3) (fun _ _ _ => False))
        { tmps := (ps.zip (encs x)).foldl (fun t (p, v) => t.setIfInBounds p v) a.tmps, defers := [] } W)
    (hdone : ∀ (W : World), I xs W → fin W → w.heap.size + 2 ≤ W.heap.size → W.heap[w.heap.size]? = some (.deferred (some [])) → Q .normal { a with defers := { target := .collected w.heap.size, args := #[] } :: a.defers } W)
    (hstop : ∀ (c : Code) (pre suf : List α) (W : World), pre ++ suf = xs → Ix c pre W → w.heap.size + 2 ≤ W.heap.size → W.heap[w.heap.size]? = some (.deferred (some [])) →
      c.wpIn Fence.wide n P Q { a with defers := { target := .collected w.heap.size, args := #[] } :: a.defers } W) :
    (Code.rangeFunc g ps assign body).wpIn Fence.wide n P Q a w := by
  refine wpIn_rangeFunc ?_
  intro fn hfn
  rw [show Fence.wide.round = none from rfl]
  obtain ⟨rec, hrec⟩ : ∃ rec : LoopState → Option Code → Loop, rec = fun st pe => { state := st, pending := pe, fn, tmps := a.tmps, params := ps, assign, body, defers := w.heap.size } := ⟨_, rfl⟩
  obtain ⟨W1, hW1⟩ : ∃ W1, (w.alloc (.deferred (some []))).alloc (.loop (rec .ready none)) = W1 := ⟨_, rfl⟩
  have hL1 : W1.heap[w.heap.size + 1]? = some (.loop (rec .ready none)) := by
    rw [← hW1]; have := World.alloc_heap_new (w.alloc (.deferred (some []))) (.loop (rec .ready none)); rwa [World.size_alloc] at this
  have hK1 : W1.heap[w.heap.size]? = some (.deferred (some [])) := by
    rw [← hW1]; exact (Below.heap_alloc _ _ _ (by simp)).trans (World.alloc_heap_new w _)
  have hk1 : Keep (fun _ => True) w W1 := by rw [← hW1]; exact ((Keep.refl _ _).alloc _).alloc _
  have hs1 : W1.heap.size = w.heap.size + 2 := by rw [← hW1]; simp
  have hI1 : I [] W1 := hI _ _ _ h0 (hk1.mono fun _ _ _ => trivial)
  refine ⟨w.heap.size + 1, [{ target := .collected w.heap.size, args := #[] }], W1, { target := .fn (.func gf) lb, args := #[.func (.yield (w.heap.size + 1)) #[] #[]] }, W1, gf,
    #[.func (.yield (w.heap.size + 1)) #[] #[]] ++ lb, W1, ?_, ?_, ?_, ?_, fun h => (by cases h), ?_⟩
  · rw [← hW1, hrec]; exact run_enterLoop_outer _ _ _ _ _
  · simp only [resolve, hg]
    simp [go_sem]
  · intro f' _; trivial
  · simp [invoke, go_sem, eg]
  · have hnp : ∀ k, w.heap.size ≤ k → ¬ priv k := fun k hk hp => by have := hpriv k hp; omega
    have hnm : ∀ k, w.heap.size ≤ k → ¬ mine k := fun k hk hp => by have := (hmine k hp).1; omega
    -- what a round, or the iterator, leaves of the two blocks
    refine callsIn_wide.2 ((hseq (w.heap.size + 1)
      (fun pre W => I pre W ∧ w.heap.size + 2 ≤ W.heap.size ∧ W.heap[w.heap.size + 1]? = some (.loop (rec .ready none)) ∧ W.heap[w.heap.size]? = some (.deferred (some [])))
      (fun pre W => ∃ c, Ix c pre W ∧ w.heap.size + 2 ≤ W.heap.size ∧ W.heap[w.heap.size + 1]? = some (.loop (rec .done (some c))) ∧ W.heap[w.heap.size]? = some (.deferred (some [])))
      W1 (hk1.mono fun _ _ _ => trivial) (by omega)
      (fun s A B hs hk => ⟨hI s A B hs.1 (hk.mono fun k h _ => h.1), Nat.le_trans hs.2.1 hk.size, hk.heap (hnp _ (by omega)) hs.2.2.1, hk.heap (hnp _ (by omega)) hs.2.2.2⟩)
      (fun s A B hs hk => by
        obtain ⟨c, hc, hz, hl, hd⟩ := hs
        exact ⟨c, hIx c s A B hc (hk.mono fun k h _ => h.1), Nat.le_trans hz hk.size, hk.heap (hnp _ (by omega)) hl, hk.heap (hnp _ (by omega)) hd⟩)
      ?_ ⟨hI1, by omega, hL1, hK1⟩).mono ?_)
    · rintro pre x rest hxs W ⟨hi, hz, hl, hd⟩
      have hy := run_yield (P := P) (args := encs x) hl (by rw [hrec]; exact hps x)
      rw [hrec] at hy
      refine ⟨fn, _, assign, body, hy, fun m => ?_⟩
      suffices hR : RoundIn Fence.wide n P (w.heap.size + 1) fn ((ps.zip (encs x)).foldl (fun t (p, v) => t.setIfInBounds p v) a.tmps) assign body W _ from ⟨hR.1, fun c cs _ => hR.2 c cs (room_wide _)⟩
      refine roundIn_of_wpIn hfn (wpIn_mono (hbody (w.heap.size + 1) pre x rest W hxs hz hi) ?_)
      rintro e a₁ W2 hp
      cases e with
      | normal =>
        obtain ⟨hk2, hnext⟩ := hp
        have hl2 := hk2.heap (hnm _ (by omega)) hl
        have hd2 := hk2.heap (hnm _ (by omega)) hd
        have hz2 := Nat.le_trans hz hk2.size
        refine ⟨_, run_beginRound hl2 (by rw [hrec]), ?_⟩
        have hl3 : (W2.putObj (w.heap.size + 1) (.loop { rec .ready none with state := .busy })).heap[w.heap.size + 1]? = some (.loop { rec .ready none with state := .busy }) := World.putObj_heap_same (Array.getElem?_eq_some_iff.1 hl2).1
        have hd3 : (W2.putObj (w.heap.size + 1) (.loop { rec .ready none with state := .busy })).heap[w.heap.size]? = some (.deferred (some [])) := (World.putObj_heap_other (by omega)).trans hd2
        have hk3 : Keep (fun k => k ≠ w.heap.size + 1) W2 (W2.putObj (w.heap.size + 1) (.loop { rec .ready none with state := .busy })) := (Keep.refl _ _).putObj (fun h => absurd rfl h) _
        refine wpIn_mono (hnext _ hk3 World.putObj_size) ?_
        have fin : ∀ (jump : Option Code) (W3 : World), Keep (fun k => ¬ mine k) (W2.putObj (w.heap.size + 1) (.loop { rec .ready none with state := .busy })) W3 →
            (Instr.endRound (w.heap.size + 1) jump).run P W3 = .ok (.bool jump.isNone) (W3.putObj (w.heap.size + 1) (.loop (rec (if jump.isNone then .ready else .done) jump))) ∧
            Keep (fun k => k ≠ w.heap.size + 1) W3 (W3.putObj (w.heap.size + 1) (.loop (rec (if jump.isNone then .ready else .done) jump))) ∧
            w.heap.size + 2 ≤ (W3.putObj (w.heap.size + 1) (.loop (rec (if jump.isNone then .ready else .done) jump))).heap.size ∧
            (W3.putObj (w.heap.size + 1) (.loop (rec (if jump.isNone then .ready else .done) jump))).heap[w.heap.size + 1]? = some (.loop (rec (if jump.isNone then .ready else .done) jump)) ∧
            (W3.putObj (w.heap.size + 1) (.loop (rec (if jump.isNone then .ready else .done) jump))).heap[w.heap.size]? = some (.deferred (some [])) ∧
            Keep need W (W3.putObj (w.heap.size + 1) (.loop (rec (if jump.isNone then .ready else .done) jump))) := fun jump W3 hk4 => by
          have hl4 := hk4.heap (hnm _ (by omega)) hl3
          have hd4 := hk4.heap (hnm _ (by omega)) hd3
          have := run_endRound (P := P) jump hl4
          have hz3 : w.heap.size + 2 ≤ W3.heap.size := by have := hk4.size; rw [World.putObj_size] at this; omega
          rw [hrec] at this ⊢
          refine ⟨this, (Keep.refl _ _).putObj (fun h => absurd rfl h) _, by rw [World.putObj_size]; exact hz3, World.putObj_heap_same (Array.getElem?_eq_some_iff.1 hl4).1, (World.putObj_heap_other (by omega)).trans hd4, ?_⟩
          have e1 : Keep need W W2 := hk2.mono fun k hn _ hm => (hmine k hm).2 hn
          have e2 : Keep need W2 W3 := (hk3.mono fun k hn _ => by have := hneed k hn; exact this).trans (hk4.mono fun k hn _ hm => (hmine k hm).2 hn)
          exact (e1.trans e2).putObj (fun hn => absurd rfl (hneed _ hn)) _
        rintro e a3 W3 hp
        have stab : ∀ (c : Option Code) {W4 : World}, Keep (fun k => k ≠ w.heap.size + 1) W3 W4 → Keep (fun k => ¬ priv k ∧ k ≠ w.heap.size ∧ k ≠ w.heap.size + 1) W3 W4 := fun _ _ hk => hk.mono fun k h _ => h.2.2
        cases e with
        | normal =>
          obtain ⟨hk4, hi4⟩ := hp
          obtain ⟨hr, hk5, hz5, hl5, hd5, hn5⟩ := fin none W3 hk4
          exact ⟨_, _, hr, .inl ⟨rfl, ⟨hI _ _ _ hi4 (stab none hk5), hz5, hl5, hd5⟩, hn5⟩⟩
        | ret =>
          obtain ⟨hk4, hi4⟩ := hp
          obtain ⟨hr, hk5, hz5, hl5, hd5, hn5⟩ := fin (some .ret) W3 hk4
          exact ⟨_, _, hr, .inr ⟨rfl, .ret, hIx _ _ _ _ hi4 (stab none hk5), hz5, hl5, hd5⟩⟩
        | exit id =>
          obtain ⟨hk4, hi4⟩ := hp
          obtain ⟨hr, hk5, hz5, hl5, hd5, hn5⟩ := fin (some (.exit id)) W3 hk4
          exact ⟨_, _, hr, .inr ⟨rfl, .exit id, hIx _ _ _ _ hi4 (stab none hk5), hz5, hl5, hd5⟩⟩
        | goto t =>
          obtain ⟨hk4, hi4⟩ := hp
          obtain ⟨hr, hk5, hz5, hl5, hd5, hn5⟩ := fin (some (.goto t)) W3 hk4
          exact ⟨_, _, hr, .inr ⟨rfl, .goto t, hIx _ _ _ _ hi4 (stab none hk5), hz5, hl5, hd5⟩⟩
        | panic ch => exact hp.elim
        | outgrown => exact hp.elim
      | ret => exact hp.elim
      | exit id => exact hp.elim
      | goto t => exact hp.elim
      | panic ch => exact hp.elim
      | outgrown => exact hp.elim
    · rintro e W2 ⟨⟨v, rfl⟩, (⟨⟨hi, hz, hl, hd⟩, hfn⟩ | ⟨pre, suf, hps', c, hi, hz, hl, hd⟩)⟩
      · have hk5 : ∀ o, Keep (fun k => ¬ priv k ∧ k ≠ w.heap.size ∧ k ≠ w.heap.size + 1) W2 (W2.putObj (w.heap.size + 1) o) := fun o => (Keep.refl _ _).putObj (fun h => absurd rfl h.2.2) _
        exact ⟨none, _, by have := run_endLoop (P := P) hl (by rw [hrec]; simp); rw [hrec] at this; exact this, hdone _ (hI _ _ _ hi (hk5 _)) (hfin _ _ hfn ((Keep.refl _ _).putObj (fun h => absurd rfl h) _)) (by rw [World.putObj_size]; exact hz) ((World.putObj_heap_other (by omega)).trans hd)⟩
      · have hk5 : ∀ o, Keep (fun k => ¬ priv k ∧ k ≠ w.heap.size ∧ k ≠ w.heap.size + 1) W2 (W2.putObj (w.heap.size + 1) o) := fun o => (Keep.refl _ _).putObj (fun h => absurd rfl h.2.2) _
        exact ⟨some c, _, by have := run_endLoop (P := P) hl (by rw [hrec]; simp); rw [hrec] at this; exact this, hstop c pre suf _ hps' (hIx c _ _ _ hi (hk5 _)) (by rw [World.putObj_size]; exact hz) ((World.putObj_heap_other (by omega)).trans hd)⟩

end Go.Proofs.Ytgcfaeipiiagdaa
