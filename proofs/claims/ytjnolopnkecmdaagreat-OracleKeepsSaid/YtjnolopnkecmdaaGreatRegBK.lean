/-
  Several texts in one: RegB.
-/
import Derived.Test.YtjnolopnkecmdaaGreatOD

/-
  A region that draws its order and stores once (program independent): one step for each operation; the store turns what the others are said to hold.
-/
namespace Go.Proofs.YtjnolopnkecmdaaGreat
open Go.RowKit

theorem put_big {a : Act} {d : Tmp} (v : Value) (h : a.tmps.size ≤ d) : a.put (some d) v = a := by
  obtain ⟨t, f⟩ := a
  show (⟨t.setIfInBounds d v, f⟩ : Act) = ⟨t, f⟩
  refine congrArg (fun t => (⟨t, f⟩ : Act)) ?_
  apply Array.ext_getElem?
  intro i
  by_cases hi : d = i
  · subst hi
    have h' : t.size ≤ d := h
    rw [Array.getElem?_eq_none (by rw [Array.size_setIfInBounds]; exact h'), Array.getElem?_eq_none h']
  · rw [Array.getElem?_setIfInBounds_ne hi]

/-- What is looked at once: slots unlike; no guards; edges lead back; the s-th stores. -/
def allB (ops : Array Oper) (s : Nat) (ds : List Tmp) (size : Nat) : Bool :=
  decide (ds.length = ops.size) && decide ds.Nodup &&
  ((List.range ops.size).all fun i => match ops[i]? with
    | none => false
    | some o => (o.guard.isNone) && (o.after.all fun e => !Region.binds .any e || decide (e.on < i)) &&
      match ds[i]? with
      | none => false
      | some d => if i = s then (o.dst == none) && decide (size ≤ d) else (o.dst == some d) && decide (d < size))

/-- Does the s-th wait for the i-th? -/
def early (ops : Array Oper) (s i : Nat) : Bool :=
  match ops[s]? with
  | none => false
  | some o => o.after.any fun e => Region.binds .any e && e.on == i

/-- A step for each of the operations from the i-th on, but for the store. -/
def ASteps (P : Program) (ops : Array Oper) (s : Nat) (ds : List Tmp) (R : Bool → Nat → Value → World → Prop) (a0 : Act) (w0 : World) (i : Nat) : Prop :=
  ∀ j, i ≤ j → j < ops.size → j ≠ s → ∀ o, ops[j]? = some o → ∀ (b : Bool) (x : Nat → Value) (w : World) (ρ : Operand → Value), (b = true → early ops s j = false) → Below w0.heap.size w0 w → (∀ e ∈ o.after, Region.binds .any e = true → e.on ≠ s → R b e.on (x e.on) w) →
      (∀ i d, ds[i]? = some d → i ≠ s → ρ (.tmp d) = x i) → (∀ t, t ∉ ds → ρ (.tmp t) = a0.eval (.tmp t)) → (∀ v, ρ (.const v) = v) → (∀ f, ρ (.func f) = .func (.func f) #[] #[]) → Stepped P ρ o w (R b j)
theorem ASteps.nil {P : Program} {ops : Array Oper} {s : Nat} {ds : List Tmp} {R : Bool → Nat → Value → World → Prop} {a0 : Act} {w0 : World} {i : Nat} (h : ops.size ≤ i) : ASteps P ops s ds R a0 w0 i := fun j h1 h2 => by omega
theorem ASteps.skip {P : Program} {ops : Array Oper} {s : Nat} {ds : List Tmp} {R : Bool → Nat → Value → World → Prop} {a0 : Act} {w0 : World} (hs : ASteps P ops s ds R a0 w0 (s + 1)) : ASteps P ops s ds R a0 w0 s := fun j h1 h2 h3 => hs j (by omega) h2 h3
/-- An operation for which the store waits. -/
theorem ASteps.ahead {P : Program} {ops : Array Oper} {s : Nat} {ds : List Tmp} {R : Bool → Nat → Value → World → Prop} {a0 : Act} {w0 : World} {i : Nat} {o : Oper} (ho : ops[i]? = some o) (he : early ops s i = true)
    (h : ∀ (x : Nat → Value) (w : World) (ρ : Operand → Value), Below w0.heap.size w0 w → (∀ e ∈ o.after, Region.binds .any e = true → e.on ≠ s → R false e.on (x e.on) w) →
      (∀ i d, ds[i]? = some d → i ≠ s → ρ (.tmp d) = x i) → (∀ t, t ∉ ds → ρ (.tmp t) = a0.eval (.tmp t)) → (∀ v, ρ (.const v) = v) → (∀ f, ρ (.func f) = .func (.func f) #[] #[]) → Stepped P ρ o w (R false i))
    (hs : ASteps P ops s ds R a0 w0 (i + 1)) : ASteps P ops s ds R a0 w0 i := by
  intro j h1 h2 h3 o' ho' b x w ρ hb
  by_cases hj : j = i
  · subst hj
    rw [ho] at ho'
    cases ho'
    cases b with
    | true => have := hb rfl; rw [he] at this; cases this
    | false => exact h x w ρ
  · exact hs j (by omega) h2 h3 o' ho' b x w ρ hb
/-- An operation that may come up behind the store, too. -/
theorem ASteps.free {P : Program} {ops : Array Oper} {s : Nat} {ds : List Tmp} {R : Bool → Nat → Value → World → Prop} {a0 : Act} {w0 : World} {i : Nat} {o : Oper} (ho : ops[i]? = some o)
    (h : ∀ (b : Bool) (x : Nat → Value) (w : World) (ρ : Operand → Value), Below w0.heap.size w0 w → (∀ e ∈ o.after, Region.binds .any e = true → e.on ≠ s → R b e.on (x e.on) w) →
      (∀ i d, ds[i]? = some d → i ≠ s → ρ (.tmp d) = x i) → (∀ t, t ∉ ds → ρ (.tmp t) = a0.eval (.tmp t)) → (∀ v, ρ (.const v) = v) → (∀ f, ρ (.func f) = .func (.func f) #[] #[]) → Stepped P ρ o w (R b i))
    (hs : ASteps P ops s ds R a0 w0 (i + 1)) : ASteps P ops s ds R a0 w0 i := by
  intro j h1 h2 h3 o' ho' b x w ρ hb
  by_cases hj : j = i
  · subst hj
    rw [ho] at ho'
    cases ho'
    exact h b x w ρ
  · exact hs j (by omega) h2 h3 o' ho' b x w ρ hb

/-- The store runs to its end. -/
def Stores (P : Program) (ρ : Operand → Value) (o : Oper) (w : World) (K : World → Prop) : Prop :=
  ∃ w', ((execOp ρ o).run P w = .ok .skip w' ∨ ∃ v, (execOp ρ o).run P w = .ok (.value v) w') ∧ K w'
theorem Stores.wp {P : Program} {a : Act} {o : Oper} {w : World} {K : World → Prop} (h : Stores P a.eval o w K) (hd : o.dst = none) {N : Act → World → Prop} {Q : Exit → Act → World → Prop} (hK : ∀ w', K w' → N a w') : o.wp P a w N Q := by
  obtain ⟨w', h1, h2⟩ := h
  unfold Oper.wp
  rcases h1 with h1 | ⟨v, h1⟩
  · rw [h1]
    show N (a.put o.dst undef) w'
    rw [hd]
    exact hK w' h2
  · rw [h1]
    show N (a.put o.dst v) w'
    rw [hd]
    exact hK w' h2

theorem wpAny_stores {P : Program} {ops : Array Oper} {Q : Exit → Act → World → Prop} (s : Nat) (ds : List Tmp) (R : Bool → Nat → Value → World → Prop) {a0 : Act} {w0 : World} (size : Nat)
    (hsz : a0.tmps.size = size) (hc : allB ops s ds size = true) (hss : s < ops.size)
    (hmono : ∀ b j, ∀ v w w', R b j v w → Below w.heap.size w w' → R b j v w')
    (hstep : ASteps P ops s ds R a0 w0 0)
    (hstore : ∀ o, ops[s]? = some o → ∀ (x : Nat → Value) (w : World) (ρ : Operand → Value), Below w0.heap.size w0 w → (∀ e ∈ o.after, Region.binds .any e = true → R false e.on (x e.on) w) →
      (∀ i d, ds[i]? = some d → i ≠ s → ρ (.tmp d) = x i) → (∀ t, t ∉ ds → ρ (.tmp t) = a0.eval (.tmp t)) → (∀ v, ρ (.const v) = v) → Stores P ρ o w fun w' => Below w0.heap.size w0 w' ∧ ∀ j, j ≠ s → R false j (x j) w → R true j (x j) w')
    (hrest : ∀ x w, Below w0.heap.size w0 w → (∀ j, j < ops.size → j ≠ s → R true j (x j) w) → Q .normal (putAll ds 0 x a0) w) :
    wpAny P .any ops Q ops.size (Array.replicate ops.size false) a0 w0 := by
  subst hsz
  unfold allB at hc
  simp only [Bool.and_eq_true, decide_eq_true_eq] at hc
  obtain ⟨⟨hlen, hnd⟩, hall⟩ := hc
  rw [List.all_eq_true] at hall
  have hop : ∀ i, i < ops.size → ∀ o, ops[i]? = some o → o.guard = none ∧ (∀ e ∈ o.after, Region.binds .any e = true → e.on < i) ∧ ∃ d, ds[i]? = some d ∧ (i = s → o.dst = none ∧ a0.tmps.size ≤ d) ∧ (i ≠ s → o.dst = some d ∧ d < a0.tmps.size) := by
    intro i hi o ho
    have h := hall i (List.mem_range.2 hi)
    have hid : i < ds.length := by omega
    rw [ho, List.getElem?_eq_getElem hid] at h
    simp only [Bool.and_eq_true] at h
    obtain ⟨⟨h1, h2⟩, h3⟩ := h
    refine ⟨by simpa using h1, fun e he hb => ?_, ds[i], List.getElem?_eq_getElem hid, fun his => ?_, fun his => ?_⟩
    · rw [Array.all_eq_true'] at h2
      have h4 := h2 e he
      rw [hb] at h4
      simpa using h4
    · rw [if_pos his, Bool.and_eq_true] at h3
      exact ⟨eq_of_beq h3.1, by simpa using h3.2⟩
    · rw [if_neg his, Bool.and_eq_true] at h3
      exact ⟨eq_of_beq h3.1, by simpa using h3.2⟩
  have hin : ∀ x i d, ds[i]? = some d → i ≠ s → (putAll ds 0 x a0).eval (.tmp d) = x i := by
    intro x i d hid his
    have hil : i < ops.size := by rw [← hlen]; exact (List.getElem?_eq_some_iff.1 hid).1
    obtain ⟨_, _, d', hd', _, h2⟩ := hop i hil ops[i] (Array.getElem?_eq_getElem hil)
    rw [hid] at hd'
    cases hd'
    rw [putAll_in ds 0 i x a0 hnd hid (h2 his).2, Nat.zero_add]
  have claim : ∀ (m : Nat) (listed : Array Bool) (x : Nat → Value) (w : World), unl listed ops.size = m → listed.size = ops.size → Below w0.heap.size w0 w →
      (listed.getD s false = true → ∀ i, early ops s i = true → listed.getD i false = true) →
      (∀ j, j < ops.size → j ≠ s → listed.getD j false = true → R (listed.getD s false) j (x j) w) → wpAny P .any ops Q m listed (putAll ds 0 x a0) w := by
    intro m
    induction m with
    | zero =>
      intro listed x w hm hsz hB hE hRx
      have hr : Region.ready .any ops listed = [] := by
        cases hc : Region.ready .any ops listed with
        | nil => rfl
        | cons i rs =>
          have hi : i ∈ Region.ready .any ops listed := by rw [hc]; exact List.mem_cons_self
          obtain ⟨his, hif, _⟩ := ready_mem hi
          have h1 := unl_zero hm i his
          rw [Array.getD_eq_getD_getElem?, Array.getElem?_eq_getElem (by omega)] at h1 hif
          rw [show listed[i] = true from h1] at hif
          cases hif
      refine ⟨hr, hrest x w hB (fun j hj hjs => ?_)⟩
      have h := hRx j hj hjs (unl_zero hm j hj)
      rw [unl_zero hm s hss] at h
      exact h
    | succ m ih =>
      intro listed x w hm hsz hB hE hRx
      obtain ⟨i0, hi0, hf0, hb0⟩ := unl_some (listed := listed) (n := ops.size) (by omega)
      refine ⟨fun hr => ?_, fun i hi => ?_⟩
      · exfalso
        have : i0 ∈ Region.ready .any ops listed := by
          unfold Region.ready
          rw [List.mem_filter]
          refine ⟨List.mem_range.2 hi0, ?_⟩
          rw [Bool.and_eq_true]
          constructor
          · have : listed.getD i0 true = false := by
              rw [Array.getD_eq_getD_getElem?] at hf0 ⊢
              rw [Array.getElem?_eq_getElem (by omega)] at hf0 ⊢
              exact hf0
            rw [this]
            rfl
          · rw [Array.getElem?_eq_getElem hi0]
            simp only [Option.map_some, Option.getD_some]
            rw [Array.all_eq_true']
            intro e he
            cases hb : Region.binds .any e with
            | false => rfl
            | true =>
              have := (hop i0 hi0 _ (Array.getElem?_eq_getElem hi0)).2.1 e he hb
              rw [hb0 e.on this]
              rfl
        rw [hr] at this
        cases this
      · obtain ⟨his, hif, o, ho, hedge⟩ := ready_mem hi
        have hif' : listed.getD i false = false := by
          rw [Array.getD_eq_getD_getElem?] at hif ⊢
          rw [Array.getElem?_eq_getElem (by omega)] at hif ⊢
          exact hif
        obtain ⟨hg, hback, d, hdi, hst, hns⟩ := hop i his o ho
        have hset : (listed.setIfInBounds i true).getD i false = true := by
          rw [Array.getD_eq_getD_getElem?]
          simp [show i < listed.size by omega]
        have hoth : ∀ j, j ≠ i → (listed.setIfInBounds i true).getD j false = listed.getD j false := fun j hj => by
          rw [Array.getD_eq_getD_getElem?, Array.getElem?_setIfInBounds_ne (Ne.symm hj), ← Array.getD_eq_getD_getElem?]
        have hun : unl (listed.setIfInBounds i true) ops.size = m := by
          have := unl_step (listed := listed) (by omega : i < listed.size) hif' his
          omega
        unfold wpOp
        rw [ho]
        have hwant : Region.wanted o (yielded ops (putAll ds 0 x a0).tmps) = true := by
          unfold Region.wanted
          rw [hg]
        simp only [hwant, if_true]
        by_cases hi_s : i = s
        · subst hi_s
          obtain ⟨hd, hbig⟩ := hst rfl
          have hnos : ∀ e ∈ o.after, Region.binds .any e = true → e.on ≠ i := fun e he hb => by have := hback e he hb; omega
          refine .inl (Stores.wp (hstore o ho x w _ hB (fun e he hb => ?_) (hin x) (fun t ht => putAll_out ds 0 x a0 ht) (fun _ => rfl)) hd ?_)
          · have h := hRx e.on (by have := hback e he hb; omega) (hnos e he hb) (hedge e he hb)
            rw [hif'] at h
            exact h
          rintro w' ⟨hbw, hturn⟩
          refine ih (listed.setIfInBounds i true) x w' hun (by rw [Array.size_setIfInBounds, hsz]) hbw (fun _ k hk => ?_) (fun j hj hji hlj => ?_)
          · unfold early at hk
            rw [ho] at hk
            rw [Array.any_eq_true'] at hk
            obtain ⟨e, he, h2⟩ := hk
            rw [Bool.and_eq_true] at h2
            have hke : e.on = k := by simpa using h2.2
            rw [hoth k (by rw [← hke]; exact hnos e he h2.1), ← hke]
            exact hedge e he h2.1
          · rw [hset]
            rw [hoth j hji] at hlj
            have h := hRx j hj hji hlj
            rw [hif'] at h
            exact hturn j hji h
        · obtain ⟨hd, hlt⟩ := hns hi_s
          have hS : (listed.setIfInBounds i true).getD s false = listed.getD s false := hoth s (fun h => hi_s h.symm)
          refine .inl (Stepped.wp (hstep i (Nat.zero_le _) his hi_s o ho (listed.getD s false) x w _ (fun hb => ?_) hB (fun e he hb hne => hRx e.on (by have := hback e he hb; omega) hne (hedge e he hb)) (hin x) (fun t ht => putAll_out ds 0 x a0 ht) (fun _ => rfl) (fun _ => rfl)) ?_)
          · cases he : early ops s i with
            | false => rfl
            | true =>
              have := hE hb i he
              rw [hif'] at this
              cases this
          intro v w' hbw hR
          rw [hd, putAll_at ds 0 i d x a0 hnd hdi]
          refine ih (listed.setIfInBounds i true) _ w' hun (by rw [Array.size_setIfInBounds, hsz]) (hB.trans (hbw.mono hB.size)) (fun h k hk => ?_) (fun j hj hjs hlj => ?_)
          · rw [hS] at h
            by_cases hki : k = i
            · rw [hki]; exact hset
            · rw [hoth k hki]; exact hE h k hk
          · rw [hS]
            by_cases hji : j = i
            · subst hji
              rw [if_pos (by omega)]
              exact hR
            · rw [if_neg (by omega)]
              rw [hoth j hji] at hlj
              exact hmono _ j _ _ _ (hRx j hj hjs hlj) hbw
  obtain ⟨x, hx⟩ := putAll_old ds 0 a0
  have hun : ∀ k, k ≤ ops.size → unl (Array.replicate ops.size false) k = k := by
    intro k
    induction k with
    | zero => exact fun _ => rfl
    | succ k ih =>
      intro hk
      unfold unl
      rw [ih (by omega)]
      have : (Array.replicate ops.size false).getD k false = false := by
        rw [Array.getD_eq_getD_getElem?]
        simp [show k < ops.size by omega]
      rw [this]
      rfl
  have hno : ∀ j, (Array.replicate ops.size false).getD j false = true → False := fun j hl => by
    rw [Array.getD_eq_getD_getElem?] at hl
    by_cases hj : j < ops.size
    · simp [hj] at hl
    · simp [hj] at hl
  have h := claim ops.size (Array.replicate ops.size false) x w0 (hun ops.size (Nat.le_refl _)) (Array.size_replicate ..) (Below.refl _ _) (fun h => (hno s h).elim) (fun j _ _ hl => (hno j hl).elim)
  rw [hx] at h
  exact h

end Go.Proofs.YtjnolopnkecmdaaGreat
