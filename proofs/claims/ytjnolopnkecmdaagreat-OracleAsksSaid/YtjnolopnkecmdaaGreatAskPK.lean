/-
  Several texts in one: AskP.
-/
import Derived.Test.YtjnolopnkecmdaaGreatOB
import Derived.Test.YtjnolopnkecmdaaGreatGF

/-
  Plain: unlike words, epochs and counts have unlike questions.
-/
namespace Go.Proofs.YtjnolopnkecmdaaGreat
open Go.RowKit

theorem fourB_inj {a b : Nat} (ha : a < 4294967296) (hb : b < 4294967296) (h : fourB a = fourB b) : a = b := by
  unfold fourB at h
  injection h with h1 h
  injection h with h2 h
  injection h with h3 h
  injection h with h4 h
  omega

theorem bytesOf_inj {a b : ByteArray} (h : bytesOf a = bytesOf b) : a = b := by rw [← strOf_bytesOf a, ← strOf_bytesOf b, h]

theorem asked_inj {x y : ByteArray} {e c f d : Nat} (hx : x.size ≤ 20) (hy : y.size ≤ 20) (he : e ≤ 1000000) (hc : c ≤ 1000000) (hf : f ≤ 1000000) (hd : d ≤ 1000000)
    (h : asked x e c = asked y f d) : x = y ∧ e = f ∧ c = d := by
  have four : ∀ n, ∀ z ∈ fourB n, z < 256 := by
    intro n z hz
    simp only [fourB, List.mem_cons, List.not_mem_nil, or_false] at hz
    omega
  have all : ∀ (s : ByteArray) (e c : Nat), s.size ≤ 20 → Bs.All (askB s e c) := by
    intro s e c hs
    refine .of_mem fun z hz => ?_
    unfold askB at hz
    rcases List.mem_append.1 hz with hz | hz
    · rcases List.mem_append.1 hz with hz | hz
      · rcases List.mem_append.1 hz with hz | hz
        · rw [List.mem_singleton] at hz
          omega
        · unfold bytesOf at hz
          obtain ⟨u, _, rfl⟩ := List.mem_map.1 hz
          exact u.toNat_lt
      · exact four e z hz
    · exact four c z hz
  have h1 := strOf_inj (all x e c hx) (all y f d hy) h
  unfold askB at h1
  have hs : x.size = y.size := by
    have h2 := congrArg (fun l => l.getD 0 0) h1
    simpa using h2
  have h3 := List.append_inj h1 (by simp [fourB, bytesOf_length, hs])
  have h4 := List.append_inj h3.1 (by simp [bytesOf_length, hs])
  have h5 := List.append_inj h4.1 (by simp)
  exact ⟨bytesOf_inj h5.2, fourB_inj (by omega) (by omega) h4.2, fourB_inj (by omega) (by omega) h3.2⟩

end Go.Proofs.YtjnolopnkecmdaaGreat
