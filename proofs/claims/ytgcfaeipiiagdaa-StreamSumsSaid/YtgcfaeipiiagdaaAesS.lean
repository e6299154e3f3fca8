/-
  The plain functions of layer 4: blocks are lists of sixteen bytes. No program in sight.
-/
import Derived.Test.YtgcfaeipiiagdaaFldE
namespace Go.Proofs.Ytgcfaeipiiagdaa
namespace Aes

/-- A round key added. -/
def add (s k : List Nat) : List Nat := (List.range 16).map fun i => s.getD i 0 ^^^ k.getD i 0
/-- Rows moved, each by its place times so much. -/
def move (by_ : Nat) (s : List Nat) : List Nat := (List.range 16).map fun i => s.getD ((i + 4 * by_ * (i % 4)) % 16) 0
/-- Each byte put through a function. -/
def each (f : Nat → Nat) (s : List Nat) : List Nat := (List.range 16).map fun i => f (s.getD i 0)
/-- Each column put through a function that tells places of four bytes. -/
def columns (f : List Nat → Nat → Nat) (s : List Nat) : List Nat := (List.range 16).map fun i => f [s.getD (4 * (i / 4)) 0, s.getD (4 * (i / 4) + 1) 0, s.getD (4 * (i / 4) + 2) 0, s.getD (4 * (i / 4) + 3) 0] (i % 4)

theorem range_all {f : Nat → Nat} (hf : ∀ i, i < 16 → f i < 256) : Bs.All ((List.range 16).map f) := .of_mem fun x hx => by
  obtain ⟨i, hi, rfl⟩ := List.mem_map.1 hx
  exact hf i (by simpa using hi)
theorem range_get {f : Nat → Nat} {i : Nat} (hi : i < 16) : ((List.range 16).map f).getD i 0 = f i := by simp [List.getD_eq_getElem?_getD, hi]
theorem add_length (s k : List Nat) : (add s k).length = 16 := by simp [add]
theorem move_length (b : Nat) (s : List Nat) : (move b s).length = 16 := by simp [move]
theorem each_length (f : Nat → Nat) (s : List Nat) : (each f s).length = 16 := by simp [each]
theorem columns_length (f : List Nat → Nat → Nat) (s : List Nat) : (columns f s).length = 16 := by simp [columns]
theorem add_all {s k : List Nat} (hs : Bs.All s) (hk : Bs.All k) : Bs.All (add s k) := range_all fun i _ => Nat.xor_lt_two_pow (n := 8) (hs i) (hk i)
theorem move_all {s : List Nat} (b : Nat) (hs : Bs.All s) : Bs.All (move b s) := range_all fun _ _ => hs _
theorem each_all {s : List Nat} {f : Nat → Nat} (hf : ∀ x, x < 256 → f x < 256) (hs : Bs.All s) : Bs.All (each f s) := range_all fun i _ => hf _ (hs i)
theorem columns_all {s : List Nat} {f : List Nat → Nat → Nat} (hf : ∀ c j, f c j < 256) : Bs.All (columns f s) := range_all fun _ _ => hf _ _

/-- Word j of a flat list of bytes. -/
def wordAt (l : List Nat) (j : Nat) : List Nat := [l.getD (4 * j) 0, l.getD (4 * j + 1) 0, l.getD (4 * j + 2) 0, l.getD (4 * j + 3) 0]
/-- What the word ahead becomes. -/
def turnT (n i mark : Nat) (t : List Nat) : List Nat :=
  if i % n = 0 then [Fld.sub (t.getD 1 0) ^^^ mark, Fld.sub (t.getD 2 0), Fld.sub (t.getD 3 0), Fld.sub (t.getD 0 0)]
  else if n = 8 ∧ i % n = 4 then [Fld.sub (t.getD 0 0), Fld.sub (t.getD 1 0), Fld.sub (t.getD 2 0), Fld.sub (t.getD 3 0)] else [t.getD 0 0, t.getD 1 0, t.getD 2 0, t.getD 3 0]
def newWord (n i mark : Nat) (l : List Nat) : List Nat :=
  [(turnT n i mark (wordAt l (i - 1))).getD 0 0 ^^^ l.getD (4 * (i - n)) 0, (turnT n i mark (wordAt l (i - 1))).getD 1 0 ^^^ l.getD (4 * (i - n) + 1) 0,
   (turnT n i mark (wordAt l (i - 1))).getD 2 0 ^^^ l.getD (4 * (i - n) + 2) 0, (turnT n i mark (wordAt l (i - 1))).getD 3 0 ^^^ l.getD (4 * (i - n) + 3) 0]
/-- The words of all round keys, flat: k more words, from word i on. -/
def expGo (n : Nat) : Nat → Nat → Nat → List Nat → List Nat
  | 0, _, _, l => l
  | k + 1, i, mark, l => expGo n k (i + 1) (if i % n = 0 then Fld.mul 2 mark else mark) (l ++ newWord n i mark l)
def expanded (key : List Nat) : List Nat := expGo (key.length / 4) (3 * (key.length / 4) + 28) (key.length / 4) 1 key

theorem wordAt_all {l : List Nat} (h : Bs.All l) (j : Nat) : Bs.All (wordAt l j) := Fld.bytes4 (h _) (h _) (h _) (h _)
theorem turnT_all {n i mark : Nat} {t : List Nat} (hm : mark < 256) (h : Bs.All t) : Bs.All (turnT n i mark t) := by
  unfold turnT
  split
  · exact Fld.bytes4 (Nat.xor_lt_two_pow (n := 8) (Fld.sub_lt _ (h _)) hm) (Fld.sub_lt _ (h _)) (Fld.sub_lt _ (h _)) (Fld.sub_lt _ (h _))
  · split
    · exact Fld.bytes4 (Fld.sub_lt _ (h _)) (Fld.sub_lt _ (h _)) (Fld.sub_lt _ (h _)) (Fld.sub_lt _ (h _))
    · exact Fld.bytes4 (h _) (h _) (h _) (h _)
theorem newWord_all {n i mark : Nat} {l : List Nat} (hm : mark < 256) (h : Bs.All l) : Bs.All (newWord n i mark l) := by
  have t := turnT_all (n := n) (i := i) hm (wordAt_all h (i - 1))
  exact Fld.bytes4 (Nat.xor_lt_two_pow (n := 8) (t _) (h _)) (Nat.xor_lt_two_pow (n := 8) (t _) (h _)) (Nat.xor_lt_two_pow (n := 8) (t _) (h _)) (Nat.xor_lt_two_pow (n := 8) (t _) (h _))
theorem all_append {l m : List Nat} (hl : Bs.All l) (hm : Bs.All m) : Bs.All (l ++ m) := .of_mem fun x hx => by
  rcases List.mem_append.1 hx with h | h
  · exact hl.mem x h
  · exact hm.mem x h
theorem expGo_length (n : Nat) : ∀ (k i mark : Nat) (l : List Nat), (expGo n k i mark l).length = l.length + 4 * k
  | 0, _, _, _ => rfl
  | k + 1, i, mark, l => by rw [expGo, expGo_length n k]; simp [newWord]; omega
theorem expGo_all (n : Nat) : ∀ (k i mark : Nat) (l : List Nat), mark < 256 → Bs.All l → Bs.All (expGo n k i mark l)
  | 0, _, _, _, _, h => h
  | k + 1, i, mark, l, hm, h => by
    rw [expGo]
    refine expGo_all n k _ _ _ ?_ (all_append h (newWord_all hm h))
    split
    · exact Fld.mul_lt 2 mark (by decide)
    · exact hm

end Aes
end Go.Proofs.Ytgcfaeipiiagdaa
