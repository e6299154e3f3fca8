/-
  Plain: a key's round keys, word by word.
-/
import Derived.Test.YtgcfaeipiiagdaaAesP
namespace Go.Proofs.Ytgcfaeipiiagdaa
namespace Aes

theorem getD_of_take {r l : List Nat} {m p : Nat} (h : r.take m = l) (hp : p < m) : r.getD p 0 = l.getD p 0 := by
  rw [← h]; simp [List.getD_eq_getElem?_getD, hp]

/-- What is told of word j. -/
def WordIs (n : Nat) (r : List Nat) (j m : Nat) : Prop :=
  ∀ t, t < 4 → r.getD (4 * j + t) 0 = (turnT n j m (wordAt r (j - 1))).getD t 0 ^^^ r.getD (4 * (j - n) + t) 0

theorem expGo_words (n : Nat) (hn : 0 < n) : ∀ (k i mark : Nat) (l : List Nat), l.length = 4 * i → n ≤ i →
    (expGo n k i mark l).take (4 * i) = l ∧ ∀ j, i ≤ j → j < i + k → ∃ m, (j = i → m = mark) ∧ WordIs n (expGo n k i mark l) j m
  | 0, i, mark, l, hl, _ => ⟨by rw [expGo, ← hl, List.take_length], fun j h1 h2 => by omega⟩
  | k + 1, i, mark, l, hl, hni => by
    have hnl : (newWord n i mark l).length = 4 := rfl
    obtain ⟨h1, h2⟩ := expGo_words n hn k (i + 1) (if i % n = 0 then Fld.mul 2 mark else mark) (l ++ newWord n i mark l) (by rw [List.length_append, hl, hnl]; omega) (by omega)
    rw [expGo]
    obtain ⟨r, hr⟩ : ∃ r, expGo n k (i + 1) (if i % n = 0 then Fld.mul 2 mark else mark) (l ++ newWord n i mark l) = r := ⟨_, rfl⟩
    rw [hr] at h1 h2 ⊢
    have hpre : r.take (4 * i) = l := by
      have := congrArg (List.take (4 * i)) h1
      rw [List.take_take, Nat.min_eq_left (by omega), List.take_append_of_le_length (by omega), ← hl, List.take_length] at this
      rw [← hl]; exact this
    refine ⟨hpre, fun j h3 h4 => ?_⟩
    by_cases hj : j = i
    · subst hj
      refine ⟨mark, fun _ => rfl, fun t ht => ?_⟩
      have e1 : r.getD (4 * j + t) 0 = (newWord n j mark l).getD t 0 := by
        rw [getD_of_take h1 (by omega)]
        simp [List.getD_eq_getElem?_getD, List.getElem?_append_right (show l.length ≤ 4 * j + t by omega), hl]
      have e2 : wordAt r (j - 1) = wordAt l (j - 1) := by
        unfold wordAt
        rw [getD_of_take hpre (by omega), getD_of_take hpre (by omega), getD_of_take hpre (by omega), getD_of_take hpre (by omega)]
      have e3 : r.getD (4 * (j - n) + t) 0 = l.getD (4 * (j - n) + t) 0 := getD_of_take hpre (by omega)
      rw [e1, e2, e3]
      rcases (show t = 0 ∨ t = 1 ∨ t = 2 ∨ t = 3 by omega) with rfl | rfl | rfl | rfl <;> rfl
    · obtain ⟨m, -, h⟩ := h2 j (by omega) (by omega)
      exact ⟨m, fun h => absurd h hj, h⟩

section
variable {n : Nat} (hn : n = 4 ∨ n = 8) {k : List Nat} (hk : k.length = 4 * n)
include hn hk

theorem expanded_words : (expanded k).take (4 * n) = k ∧ ∀ j, n ≤ j → j < 4 * n + 28 → ∃ m, (j = n → m = 1) ∧ WordIs n (expanded k) j m := by
  have hd : k.length / 4 = n := by omega
  rw [expanded, hd]
  obtain ⟨h1, h2⟩ := expGo_words n (by omega) (3 * n + 28) n 1 k hk (Nat.le_refl _)
  exact ⟨h1, fun j h3 h4 => h2 j h3 (by omega)⟩
theorem expanded_prefix : (expanded k).take (4 * n) = k := (expanded_words hn hk).1

/-- A byte of a word that is not turned. -/
theorem expanded_plain (p : Nat) (h1 : 4 * n ≤ p) (h2 : p < 16 * (n + 7)) (h3 : ¬ p / 4 % n = 0) (h4 : ¬ (n = 8 ∧ p / 4 % 8 = 4)) :
    (expanded k).getD p 0 = (expanded k).getD (p - 4) 0 ^^^ (expanded k).getD (p - 4 * n) 0 := by
  obtain ⟨m, -, hw⟩ := (expanded_words hn hk).2 (p / 4) (by omega) (by omega)
  have ht := hw (p % 4) (Nat.mod_lt _ (by decide))
  rw [show 4 * (p / 4) + p % 4 = p by omega, show 4 * (p / 4 - n) + p % 4 = p - 4 * n by omega] at ht
  rw [ht, turnT, if_neg h3, if_neg (fun h => h4 ⟨h.1, by obtain ⟨h5, h6⟩ := h; rw [h5] at h6; exact h6⟩)]
  congr 1
  have e : p - 4 = 4 * (p / 4 - 1) + p % 4 := by omega
  rw [e]
  have ht4 : p % 4 < 4 := Nat.mod_lt _ (by decide)
  generalize p % 4 = t at ht4
  generalize p / 4 - 1 = q
  rcases (show t = 0 ∨ t = 1 ∨ t = 2 ∨ t = 3 by omega) with rfl | rfl | rfl | rfl <;> rfl

/-- The first one that is. -/
theorem expanded_first : (expanded k).getD (4 * n + 1) 0 = (expanded k).getD 1 0 ^^^ Fld.sub ((expanded k).getD (4 * n - 2) 0) := by
  obtain ⟨m, -, hw⟩ := (expanded_words hn hk).2 n (Nat.le_refl _) (by omega)
  have ht := hw 1 (by decide)
  rw [ht, turnT, if_pos (Nat.mod_self n), Nat.sub_self, Nat.xor_comm, show 4 * n - 2 = 4 * (n - 1) + 2 by omega]
  rfl
end

end Aes

end Go.Proofs.Ytgcfaeipiiagdaa
