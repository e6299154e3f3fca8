/-
  The document's answer of layer 4: subbed, shifted.
-/
import Derived.Test.YtkodfifmfpdjoaaRefD
import Derived.Test.YtkodfifmfpdjoaaRefC
import Derived.Deep.CutRange
namespace Go.Proofs.Ytkodfifmfpdjoaa
open Go.RowKit

def Aes.byT (T s : List Nat) : List Nat := (List.range s.length).map fun i => T.getD (s.getD i 0) 0

set_option maxRecDepth 100000 in
set_option maxHeartbeats 2000000 in
theorem refSubbed_any (s : ByteArray) (T : List Nat) (hT : T.length = 256) (hs : s.size ≤ 1000000000) (w : World) :
    Calls Try.prog 30 #[.string s, .agg (Bs.vals T)] w fun e w' => e = .returned (.string (strOf (Aes.byT T (bytesOf s)))) ∧ Below w.heap.size w w' := by
  obtain ⟨i0, hi0, hz0, hz1, hz2⟩ := info_parts LawA.infoByte
  have hRl : (Aes.byT T (bytesOf s)).length = s.size := by simp [Aes.byT, bytesOf_length]
  have hRg : ∀ i, i < s.size → (Aes.byT T (bytesOf s)).getD i 0 = T.getD ((bytesOf s).getD i 0) 0 := fun i hi => by
    have h : i < (bytesOf s).length := by rw [bytesOf_length]; exact hi
    simp [Aes.byT, List.getD_eq_getElem?_getD, h]
  obtain ⟨R, hR⟩ : ∃ R, Aes.byT T (bytesOf s) = R := ⟨_, rfl⟩
  rw [hR] at hRl hRg
  have HRg := Lib.hid hRg
  have HR := Lib.hid hR
  have hbox := Row.new w 47 (Bs.vals T)
  have hB0 : Below w.heap.size w (w.alloc (.cells (Bs.vals T) 47)) := (Below.refl _ w).alloc (Nat.le_refl _) _
  obtain ⟨w0, hw0⟩ : ∃ w0, w.alloc (.cells (Bs.vals T) 47) = w0 := ⟨_, rfl⟩
  rw [hw0] at hbox hB0
  have hgl := hbox.lt
  have Hst := Lib.hid (AppAt.start R w0 w0 (Below.refl _ _))
  have Hbox := Lib.hid hbox
  have HB0 := Lib.hid hB0
  have Hw0 := Lib.hid hw0
  clear hRg hR hbox hB0 hw0
  go_enter Try.func30, Try.ntmps30
  go_wp2
  rw [show w.alloc (.cells (Bs.vals T) 47) = w0 from Hw0.out]
  clear Hw0
  go_loopw [5, 6] (fun vb vi wr => AppAt R w0 vb vi wr) (fun _ vi _ => R.length - (intOf vi).toNat)
  case atStart => exact Hst.out
  case round =>
    clear Hst
    obtain ⟨i, hi, rfl, hown, hB⟩ := hrel
    by_cases hlt : i < s.size
    · have hlt' : (i : Int) < (s.size : Int) := by omega
      have hx1 := fun W => idx_string s (i : Int) i rfl hlt W
      have hxl := bytesOf_all s i
      have hg := HRg.out i hlt
      have hrow := Hbox.out.below hB hgl
      have hcell := hrow.cell ((bytesOf s).getD i 0)
      rw [Bs.get T (by omega)] at hcell
      have hxi : (((bytesOf s).getD i 0 : Nat) : Int) < 256 := by omega
      have Hg := Lib.hid hg
      clear hg hrow
      generalize T.getD ((bytesOf s).getD i 0) 0 = z at *
      generalize (bytesOf s).getD i 0 = x at *
      have hnews : ∀ j u, [U z][j]? = some u → (wr.alloc (.cells #[U z] 5)).cell? ((⟨wr.heap.size, 0, none⟩ : Addr).add j) = some u := fun j u hu => by
        rw [Addr.add_mid, Nat.zero_add]
        exact ((Row.new wr 5 #[U z]).cell j).trans (by simpa using hu)
      have Hnews := Lib.hid hnews
      have Hown := Lib.hid (hown.alloc (.cells #[U z] 5))
      have HB := Lib.hid (hB.alloc hB.size (.cells #[U z] 5))
      have hil : i ≤ 1000000000 := by omega
      clear hnews hown hB
      go_wp2_with (at_builtin; go_must (refine wpList_append_own _ rfl _ _ 33 rfl w0.heap.size 5 i0 _ 1 1 Try.underlying33 hi0 hz0 hz1 hz2 rfl (by decide) _ _ _ rfl Hown.out ⟨wr.heap.size, 0, none⟩ 1 1 [U z] rfl rfl Hnews.out (by simp [Value.oneCell']) (by unfold maxLen; omega) (by omega) HB.out.size ?_); intro v' w2 hown' hgrow _)
      have Hnx := Lib.hid (AppAt.next (by omega) Hg.out HB.out (fun k e => (Hown.out.lt k e).1) hown' (keep_grown hgrow))
      go_roundw
      case rel => exact Hnx.out
      case measure => simp [intOf]; omega
    · obtain rfl : i = R.length := by omega
      have hlt' : ¬ ((R.length : Nat) : Int) < (s.size : Int) := by omega
      rw [List.take_length] at hown
      have hcv := conv_owned rfl hown
      have HB := Lib.hid (below_seq HB0.out hB)
      clear hown hB
      go_wp2
      go_ret
      exact ⟨by rw [HR.out]; rfl, HB.out⟩

/-- Columns of R on their way. -/
def ShCol (R : List Nat) (w : World) (vb vc : Value) (wr : World) : Prop :=
  ∃ c : Nat, c ≤ 4 ∧ vc = .int .i64 (c : Int) ∧ wr.ownsRow w.heap.size 5 1 vb (4 * c) ((R.take (4 * c)).map U) ∧ Below w.heap.size w wr
theorem ShCol.start (R : List Nat) (w wr : World) (h : Below w.heap.size w wr) : ShCol R w (.slice none 0 0) (.int .i64 0) wr :=
  ⟨0, Nat.zero_le _, rfl, by simpa using World.ownsRow_nil wr w.heap.size _ 1, h⟩
/-- .. and bytes of column c. -/
def ShCell (R : List Nat) (w : World) (c : Nat) (vb vr : Value) (wr : World) : Prop :=
  ∃ r : Nat, r ≤ 4 ∧ vr = .int .i64 (r : Int) ∧ wr.ownsRow w.heap.size 5 1 vb (4 * c + r) ((R.take (4 * c + r)).map U) ∧ Below w.heap.size w wr
theorem ShCell.next {R : List Nat} {w wr w2 : World} {vb v' : Value} {c r : Nat} {x : Nat} (hi : 4 * c + r < R.length) (hr : r < 4) (hx : R.getD (4 * c + r) 0 = x) (hB : Below w.heap.size w wr) (hvb : ∀ k, vb.ownBlock = some k → w.heap.size ≤ k)
    (hown : w2.ownsRow w.heap.size 5 1 v' (4 * c + r + 1) ((R.take (4 * c + r)).map U ++ [U x])) (hgrow : Keep (fun k => vb.ownBlock ≠ some k) wr w2) : ShCell R w c v' (.int .i64 ((r : Int) + 1)) w2 := by
  obtain ⟨i, h1, h2, h3, h4⟩ := AppAt.next (i := 4 * c + r) hi hx hB hvb hown hgrow
  have e : i = 4 * c + (r + 1) := by
    simp only [Value.int.injEq, true_and] at h2
    omega
  subst e
  exact ⟨r + 1, hr, by go_num, h3, h4⟩

set_option maxRecDepth 100000 in
set_option maxHeartbeats 2000000 in
theorem refShifted1 (s : ByteArray) (hs : s.size = 16) (w : World) :
    Calls Try.prog 31 #[.string s, .int .i64 1] w fun e w' => e = .returned (.string (strOf (Aes.move 1 (bytesOf s)))) ∧ Below w.heap.size w w' := by
  obtain ⟨i0, hi0, hz0, hz1, hz2⟩ := info_parts LawA.infoByte
  have hRl := Aes.move_length 1 (bytesOf s)
  have hRg : ∀ c r, c < 4 → r < 4 → (Aes.move 1 (bytesOf s)).getD (4 * c + r) 0 = (bytesOf s).getD (4 * ((c + 1 * r) % 4) + r) 0 := fun c r hc hr => by
    rw [Aes.move_get (by omega)]
    congr 1
    omega
  obtain ⟨R, hR⟩ : ∃ R, Aes.move 1 (bytesOf s) = R := ⟨_, rfl⟩
  rw [hR] at hRl hRg
  have HRg := Lib.hid hRg
  have HR := Lib.hid hR
  have Hst := Lib.hid (ShCol.start R w w (Below.refl _ _))
  clear hRg hR
  go_enter Try.func31, Try.ntmps31
  go_wp2
  go_loopw [5, 6] (fun vb vc wr => ShCol R w vb vc wr) (fun _ vc _ => 4 - (intOf vc).toNat)
  case atStart => exact Hst.out
  case round =>
    clear Hst
    obtain ⟨c, hc, rfl, hown, hB⟩ := hrel
    by_cases hlt : c < 4
    · have hlt' : (c : Int) < 4 := by omega
      have Hst2 : Hid (ShCell R w c u5 (.int .i64 0) wr) := Lib.hid ⟨0, by decide, rfl, by rw [Nat.add_zero]; exact hown, hB⟩
      clear hown hB
      go_wp2
      go_loopw [5, 7] (fun vb vr wr => ShCell R w c vb vr wr) (fun _ vr _ => 4 - (intOf vr).toNat)
      case atStart => exact Hst2.out
      case round =>
        clear Hst2
        obtain ⟨r, hr, rfl, hown, hB⟩ := hrel
        by_cases hrt : r < 4
        · have hrt' : (r : Int) < 4 := by omega
          have hx := fun W => idx_string s (4 * (((c : Int) + (r : Int)) % 4) + (r : Int)) (4 * ((c + 1 * r) % 4) + r) (by omega) (by omega) W
          have hg := HRg.out c r hlt hrt
          have Hg := Lib.hid hg
          clear hg
          generalize (bytesOf s).getD (4 * ((c + 1 * r) % 4) + r) 0 = z at *
          have hnews : ∀ j u, [U z][j]? = some u → (wr.alloc (.cells #[U z] 5)).cell? ((⟨wr.heap.size, 0, none⟩ : Addr).add j) = some u := fun j u hu => by
            rw [Addr.add_mid, Nat.zero_add]
            exact ((Row.new wr 5 #[U z]).cell j).trans (by simpa using hu)
          have Hnews := Lib.hid hnews
          have Hown := Lib.hid (hown.alloc (.cells #[U z] 5))
          have HB := Lib.hid (hB.alloc hB.size (.cells #[U z] 5))
          clear hnews hown hB
          go_wp2_with (at_builtin; go_must (refine wpList_append_own _ rfl _ _ 33 rfl w.heap.size 5 i0 _ 1 1 Try.underlying33 hi0 hz0 hz1 hz2 rfl (by decide) _ _ _ rfl Hown.out ⟨wr.heap.size, 0, none⟩ 1 1 [U z] rfl rfl Hnews.out (by simp [Value.oneCell']) (by unfold maxLen; omega) (by omega) HB.out.size ?_); intro v' w2 hown' hgrow _)
          have Hnx := Lib.hid (ShCell.next (by omega) hrt Hg.out HB.out (fun k e => (Hown.out.lt k e).1) hown' (keep_grown hgrow))
          go_roundw
          case rel => exact Hnx.out
          case measure => simp [intOf]; omega
        · obtain rfl : r = 4 := by omega
          have hrt' : ¬ ((4 : Nat) : Int) < 4 := by decide
          have Hnx : Hid (ShCol R w u5 (.int .i64 ((c : Int) + 1)) wr) := Lib.hid ⟨c + 1, by omega, by go_num, hown, hB⟩
          clear hown hB
          go_wp2
          go_roundw
          case rel => exact Hnx.out
          case measure => simp [intOf]; omega
    · obtain rfl : c = 4 := by omega
      have hlt' : ¬ ((4 : Nat) : Int) < 4 := by decide
      rw [List.take_of_length_le (by omega)] at hown
      have hcv := conv_owned hRl hown
      have HB := Lib.hid hB
      clear hown hB
      go_wp2
      go_ret
      exact ⟨by rw [HR.out]; rfl, HB.out⟩

set_option maxRecDepth 100000 in
set_option maxHeartbeats 2000000 in
theorem refShifted3 (s : ByteArray) (hs : s.size = 16) (w : World) :
    Calls Try.prog 31 #[.string s, .int .i64 3] w fun e w' => e = .returned (.string (strOf (Aes.move 3 (bytesOf s)))) ∧ Below w.heap.size w w' := by
  obtain ⟨i0, hi0, hz0, hz1, hz2⟩ := info_parts LawA.infoByte
  have hRl := Aes.move_length 3 (bytesOf s)
  have hRg : ∀ c r, c < 4 → r < 4 → (Aes.move 3 (bytesOf s)).getD (4 * c + r) 0 = (bytesOf s).getD (4 * ((c + 3 * r) % 4) + r) 0 := fun c r hc hr => by
    rw [Aes.move_get (by omega)]
    congr 1
    omega
  obtain ⟨R, hR⟩ : ∃ R, Aes.move 3 (bytesOf s) = R := ⟨_, rfl⟩
  rw [hR] at hRl hRg
  have HRg := Lib.hid hRg
  have HR := Lib.hid hR
  have Hst := Lib.hid (ShCol.start R w w (Below.refl _ _))
  clear hRg hR
  go_enter Try.func31, Try.ntmps31
  go_wp2
  go_loopw [5, 6] (fun vb vc wr => ShCol R w vb vc wr) (fun _ vc _ => 4 - (intOf vc).toNat)
  case atStart => exact Hst.out
  case round =>
    clear Hst
    obtain ⟨c, hc, rfl, hown, hB⟩ := hrel
    by_cases hlt : c < 4
    · have hlt' : (c : Int) < 4 := by omega
      have Hst2 : Hid (ShCell R w c u5 (.int .i64 0) wr) := Lib.hid ⟨0, by decide, rfl, by rw [Nat.add_zero]; exact hown, hB⟩
      clear hown hB
      go_wp2
      go_loopw [5, 7] (fun vb vr wr => ShCell R w c vb vr wr) (fun _ vr _ => 4 - (intOf vr).toNat)
      case atStart => exact Hst2.out
      case round =>
        clear Hst2
        obtain ⟨r, hr, rfl, hown, hB⟩ := hrel
        by_cases hrt : r < 4
        · have hrt' : (r : Int) < 4 := by omega
          have hx := fun W => idx_string s (4 * (((c : Int) + 3 * (r : Int)) % 4) + (r : Int)) (4 * ((c + 3 * r) % 4) + r) (by omega) (by omega) W
          have hg := HRg.out c r hlt hrt
          have Hg := Lib.hid hg
          clear hg
          generalize (bytesOf s).getD (4 * ((c + 3 * r) % 4) + r) 0 = z at *
          have hnews : ∀ j u, [U z][j]? = some u → (wr.alloc (.cells #[U z] 5)).cell? ((⟨wr.heap.size, 0, none⟩ : Addr).add j) = some u := fun j u hu => by
            rw [Addr.add_mid, Nat.zero_add]
            exact ((Row.new wr 5 #[U z]).cell j).trans (by simpa using hu)
          have Hnews := Lib.hid hnews
          have Hown := Lib.hid (hown.alloc (.cells #[U z] 5))
          have HB := Lib.hid (hB.alloc hB.size (.cells #[U z] 5))
          clear hnews hown hB
          go_wp2_with (at_builtin; go_must (refine wpList_append_own _ rfl _ _ 33 rfl w.heap.size 5 i0 _ 1 1 Try.underlying33 hi0 hz0 hz1 hz2 rfl (by decide) _ _ _ rfl Hown.out ⟨wr.heap.size, 0, none⟩ 1 1 [U z] rfl rfl Hnews.out (by simp [Value.oneCell']) (by unfold maxLen; omega) (by omega) HB.out.size ?_); intro v' w2 hown' hgrow _)
          have Hnx := Lib.hid (ShCell.next (by omega) hrt Hg.out HB.out (fun k e => (Hown.out.lt k e).1) hown' (keep_grown hgrow))
          go_roundw
          case rel => exact Hnx.out
          case measure => simp [intOf]; omega
        · obtain rfl : r = 4 := by omega
          have hrt' : ¬ ((4 : Nat) : Int) < 4 := by decide
          have Hnx : Hid (ShCol R w u5 (.int .i64 ((c : Int) + 1)) wr) := Lib.hid ⟨c + 1, by omega, by go_num, hown, hB⟩
          clear hown hB
          go_wp2
          go_roundw
          case rel => exact Hnx.out
          case measure => simp [intOf]; omega
    · obtain rfl : c = 4 := by omega
      have hlt' : ¬ ((4 : Nat) : Int) < 4 := by decide
      rw [List.take_of_length_le (by omega)] at hown
      have hcv := conv_owned hRl hown
      have HB := Lib.hid hB
      clear hown hB
      go_wp2
      go_ret
      exact ⟨by rw [HR.out]; rfl, HB.out⟩

end Go.Proofs.Ytkodfifmfpdjoaa
