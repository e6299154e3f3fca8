/-
  The document's answer of layer 4: texts that are appended byte by byte: xor, subbed, shifted.
-/
import Derived.Test.YtkodfifmfpdjoaaAesI
import Derived.Test.YtkodfifmfpdjoaaLawA
import Derived.Test.YtkodfifmfpdjoaaLawK
namespace Go.Proofs.Ytkodfifmfpdjoaa
open Go.RowKit

def Aes.xorL (a b : List Nat) : List Nat := (List.range a.length).map fun i => a.getD i 0 ^^^ b.getD i 0
theorem Aes.xorL_length (a b : List Nat) : (Aes.xorL a b).length = a.length := by simp [Aes.xorL]
theorem Aes.xorL_get (a b : List Nat) {i : Nat} (hi : i < a.length) : (Aes.xorL a b).getD i 0 = a.getD i 0 ^^^ b.getD i 0 := by simp [Aes.xorL, List.getD_eq_getElem?_getD, hi]

/-- Bytes of R on their way into a slice. -/
def AppAt (R : List Nat) (w : World) (vb vi : Value) (wr : World) : Prop :=
  ∃ i : Nat, i ≤ R.length ∧ vi = .int .i64 (i : Int) ∧ wr.ownsRow w.heap.size 5 1 vb i ((R.take i).map U) ∧ Below w.heap.size w wr
theorem AppAt.start (R : List Nat) (w wr : World) (h : Below w.heap.size w wr) : AppAt R w (.slice none 0 0) (.int .i64 0) wr :=
  ⟨0, Nat.zero_le _, rfl, by simpa using World.ownsRow_nil wr w.heap.size _ 1, h⟩
theorem AppAt.next {R : List Nat} {w wr w2 : World} {vb v' : Value} {i : Nat} {x : Nat} (hi : i < R.length) (hx : R.getD i 0 = x) (hB : Below w.heap.size w wr) (hvb : ∀ k, vb.ownBlock = some k → w.heap.size ≤ k)
    (hown : w2.ownsRow w.heap.size 5 1 v' (i + 1) ((R.take i).map U ++ [U x])) (hgrow : Keep (fun k => vb.ownBlock ≠ some k) wr w2) : AppAt R w v' (.int .i64 ((i : Int) + 1)) w2 := by
  refine ⟨i + 1, hi, rfl, ?_, ((Keep.below (S := fun _ => True) hB).on hgrow (fun k _ hl e => by have := hvb k e; omega)).toBelow (fun _ _ => trivial)⟩
  have : R.take (i + 1) = R.take i ++ [x] := by
    rw [List.take_succ_eq_append_getElem hi]
    congr 2
    rw [← hx]; simp [List.getD_eq_getElem?_getD, hi]
  rw [this, List.map_append]
  exact hown

theorem conv_owned {W : World} {base : Nat} {v : Value} {R : List Nat} {n : Nat} (hn : R.length = n) (h : W.ownsRow base 5 1 v n (R.map U)) :
    (convert 33 9 v).run Try.prog W = .ok (.string (strOf R)) W := by
  subst hn
  rcases h.2 with ⟨rfl, hz⟩ | ⟨g, cap, cur, rfl, _⟩
  · obtain rfl : R = [] := List.length_eq_zero_iff.1 hz
    exact run_convert_bytes_string W 33 9 5 _ _ _ Try.underlying33 Try.underlying5 Try.underlying9
  · exact conv_string (P := Try.prog) (src := 33) (dst := 9) Try.underlying33 Try.underlying5 Try.underlying9 g 0 cap R W
      (fun j hj => by rw [Nat.zero_add, h.cellAt j (by omega)]; simp [List.getD_eq_getElem?_getD, hj]) R.length rfl

set_option maxRecDepth 100000 in
set_option maxHeartbeats 2000000 in
theorem refXor_any (a b : ByteArray) (hl : a.size ≤ b.size) (hs : a.size ≤ 1000000000) (w : World) :
    Calls Try.prog 28 #[.string a, .string b] w fun e w' => e = .returned (.string (strOf (Aes.xorL (bytesOf a) (bytesOf b)))) ∧ Below w.heap.size w w' := by
  obtain ⟨i0, hi0, hz0, hz1, hz2⟩ := info_parts LawA.infoByte
  have hRl : (Aes.xorL (bytesOf a) (bytesOf b)).length = a.size := by rw [Aes.xorL_length, bytesOf_length]
  have hRg : ∀ i, i < a.size → (Aes.xorL (bytesOf a) (bytesOf b)).getD i 0 = (bytesOf a).getD i 0 ^^^ (bytesOf b).getD i 0 := fun i hi => Aes.xorL_get _ _ (by rw [bytesOf_length]; exact hi)
  obtain ⟨R, hR⟩ : ∃ R, Aes.xorL (bytesOf a) (bytesOf b) = R := ⟨_, rfl⟩
  rw [hR] at hRl hRg
  have HRg := Lib.hid hRg
  have HR := Lib.hid hR
  have Hst := Lib.hid (AppAt.start R w w (Below.refl _ _))
  clear hRg hR
  go_enter Try.func28, Try.ntmps28
  go_wp2
  go_loopw [5, 6] (fun vb vi wr => AppAt R w vb vi wr) (fun _ vi _ => R.length - (intOf vi).toNat)
  case atStart => exact Hst.out
  case round =>
    clear Hst
    obtain ⟨i, hi, rfl, hown, hB⟩ := hrel
    by_cases hlt : i < a.size
    · have hlt' : (i : Int) < (a.size : Int) := by omega
      have hx1 := fun W => idx_string a (i : Int) i rfl hlt W
      have hx2 := fun W => idx_string b (i : Int) i rfl (by omega) W
      have hxx := u8_xor_nat ((bytesOf a).getD i 0) ((bytesOf b).getD i 0) (bytesOf_all a i) (bytesOf_all b i)
      have hg := HRg.out i hlt
      obtain ⟨z, hz⟩ : ∃ z, (bytesOf a).getD i 0 ^^^ (bytesOf b).getD i 0 = z := ⟨_, rfl⟩
      rw [hz] at hxx hg
      have Hg := Lib.hid hg
      have hnews : ∀ j u, [U z][j]? = some u → (wr.drew.alloc (.cells #[U z] 5)).cell? ((⟨wr.drew.heap.size, 0, none⟩ : Addr).add j) = some u := fun j u hu => by
        rw [Addr.add_mid, Nat.zero_add]
        exact ((Row.new wr.drew 5 #[U z]).cell j).trans (by simpa using hu)
      have Hnews := Lib.hid hnews
      have Hown := Lib.hid (hown.drew.alloc (.cells #[U z] 5))
      have HB := Lib.hid (hB.drew.alloc hB.size (.cells #[U z] 5))
      have hil : i ≤ 1000000000 := by omega
      clear hnews hg hz hown hB
      generalize (bytesOf a).getD i 0 = x at *
      generalize (bytesOf b).getD i 0 = y at *
      go_wp2_with fail
      go_region_law (refine step_append_owns rfl (.tmp 13) (.tmp 21) 33 rfl w.heap.size 5 i0 _ 1 1 Try.underlying33 hi0 hz0 hz1 hz2 rfl (by decide) _ i ((R.take i).map U) rfl Hown.out ⟨wr.drew.heap.size, 0, none⟩ 1 1 [U z] rfl rfl Hnews.out (by simp [Value.oneCell']) (by unfold maxLen; omega) (by omega) HB.out.size ?_; intro v' w2 hown' hgrow)
      all_goals
        have Hnx := Lib.hid (AppAt.next (by omega) Hg.out HB.out (fun k e => (Hown.out.lt k e).1) hown' (keep_grown hgrow))
        clear hown' hgrow
        go_wp2
        go_roundw
        case rel => exact Hnx.out
        case measure => simp [intOf]; omega
    · obtain rfl : i = R.length := by omega
      have hlt' : ¬ ((R.length : Nat) : Int) < (a.size : Int) := by omega
      rw [List.take_length] at hown
      have hcv := conv_owned rfl hown
      have HB := Lib.hid hB
      clear hown hB
      go_wp2
      go_ret
      exact ⟨by rw [HR.out]; rfl, HB.out⟩

end Go.Proofs.Ytkodfifmfpdjoaa
