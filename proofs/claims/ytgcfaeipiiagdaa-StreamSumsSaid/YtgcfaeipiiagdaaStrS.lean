/-
  The plain functions of layer 5: counters as numbers. No program in sight.
-/
import Derived.Test.YtgcfaeipiiagdaaTxt
namespace Go.Proofs.Ytgcfaeipiiagdaa
namespace Ctr

/-- Bytes as a number, the greatest one ahead. -/
def num (l : List Nat) : Nat := l.foldl (fun a x => a * 256 + x) 0
/-- A number as a counter. -/
def ctr (v : Nat) : List Nat := (List.range 16).map fun i => v / 256 ^ (15 - i) % 256

theorem num_go (l : List Nat) : ∀ a, l.foldl (fun a x => a * 256 + x) a = a * 256 ^ l.length + num l := by
  induction l with
  | nil => intro a; simp [num]
  | cons x l ih =>
    intro a
    simp only [List.foldl_cons, List.length_cons]
    have e : num (x :: l) = x * 256 ^ l.length + num l := by
      show l.foldl _ (0 * 256 + x) = _
      rw [ih, Nat.zero_mul, Nat.zero_add]
    rw [ih, e, Nat.pow_succ, Nat.add_mul, Nat.mul_assoc, Nat.mul_comm 256, Nat.add_assoc]
theorem num_append (l m : List Nat) : num (l ++ m) = num l * 256 ^ m.length + num m := by rw [num, List.foldl_append, num_go]; rfl
theorem num_snoc (l : List Nat) (x : Nat) : num (l ++ [x]) = num l * 256 + x := by rw [num_append]; simp [num]
theorem num_cons (x : Nat) (l : List Nat) : num (x :: l) = x * 256 ^ l.length + num l := by
  have := num_append [x] l
  simpa [num] using this
theorem num_lt : ∀ (l : List Nat), (∀ x ∈ l, x < 256) → num l < 256 ^ l.length
  | [], _ => by simp [num]
  | x :: l, h => by
    have h1 := num_lt l fun y hy => h y (by simp [hy])
    have h2 := h x (by simp)
    rw [num_cons, List.length_cons, Nat.pow_succ]
    have h3 : x * 256 ^ l.length ≤ 255 * 256 ^ l.length := Nat.mul_le_mul_right _ (by omega)
    omega

theorem ctr_length (v : Nat) : (ctr v).length = 16 := by simp [ctr]
theorem ctr_all (v : Nat) : Bs.All (ctr v) := .of_mem fun x hx => by
  obtain ⟨i, _, rfl⟩ := List.mem_map.1 hx
  exact Nat.mod_lt _ (by decide)
theorem all_append {l m : List Nat} (hl : Bs.All l) (hm : Bs.All m) : Bs.All (l ++ m) := .of_mem fun x hx => by
  rcases List.mem_append.1 hx with h | h
  · exact hl.mem x h
  · exact hm.mem x h

/-- Two texts of one length with one number are one. -/
theorem num_inj : ∀ (l m : List Nat), l.length = m.length → (∀ x ∈ l, x < 256) → (∀ x ∈ m, x < 256) → num l = num m → l = m
  | [], [], _, _, _, _ => rfl
  | [], _ :: _, h, _, _, _ => by simp at h
  | _ :: _, [], h, _, _, _ => by simp at h
  | x :: l, y :: m, h, hl, hm, e => by
    have h' : l.length = m.length := by simpa using h
    have al := num_lt l fun z hz => hl z (by simp [hz])
    have am := num_lt m fun z hz => hm z (by simp [hz])
    rw [num_cons, num_cons, h'] at e
    rw [h'] at al
    have hp : 0 < 256 ^ m.length := Nat.pow_pos (by decide)
    have hxy : x = y := by
      have e1 := congrArg (· / 256 ^ m.length) e
      simp only [Nat.mul_comm x, Nat.mul_comm y, Nat.mul_add_div hp, Nat.div_eq_of_lt al, Nat.div_eq_of_lt am, Nat.add_zero] at e1
      exact e1
    subst hxy
    rw [num_inj l m h' (fun z hz => hl z (by simp [hz])) (fun z hz => hm z (by simp [hz])) (by omega)]

theorem num_ctr_all : ∀ (k v : Nat), num ((List.range k).map fun i => v / 256 ^ (k - 1 - i) % 256) = v % 256 ^ k
  | 0, v => by simp [num, Nat.mod_one]
  | k + 1, v => by
    rw [List.range_succ, List.map_append, List.map_singleton, num_snoc]
    have h := num_ctr_all k (v / 256)
    have e : ((List.range k).map fun i => v / 256 ^ (k + 1 - 1 - i) % 256) = (List.range k).map fun i => v / 256 / 256 ^ (k - 1 - i) % 256 := by
      refine List.map_congr_left fun i hi => ?_
      have hi' : i < k := by simpa using hi
      rw [Nat.div_div_eq_div_mul, ← Nat.pow_succ', show k + 1 - 1 - i = k - 1 - i + 1 by omega]
    rw [e, h, show k + 1 - 1 - k = 0 by omega, Nat.pow_zero, Nat.div_one, Nat.pow_succ', Nat.mod_mul, Nat.mul_comm, Nat.add_comm]
theorem num_ctr (v : Nat) : num (ctr v) = v % 256 ^ 16 := num_ctr_all 16 v
theorem ctr_num {c : List Nat} (hc : c.length = 16) (ha : Bs.All c) {v : Nat} (h : num c = v % 256 ^ 16) : c = ctr v :=
  num_inj _ _ (by rw [hc, ctr_length]) ha.mem (ctr_all v).mem (by rw [h, num_ctr])
theorem ctr_inj {u v : Nat} (h : ctr u = ctr v) : u % 256 ^ 16 = v % 256 ^ 16 := by rw [← num_ctr, ← num_ctr, h]

end Ctr
end Go.Proofs.Ytgcfaeipiiagdaa
