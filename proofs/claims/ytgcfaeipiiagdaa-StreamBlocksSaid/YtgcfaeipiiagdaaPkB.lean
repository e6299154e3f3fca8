/-
  Several texts in one: RefE, RefP, RefF, RefG.
-/
import Derived.Test.YtgcfaeipiiagdaaPkA
import Derived.Deep.CutRange
import Derived.Test.YtgcfaeipiiagdaaAesP
import Derived.Test.YtgcfaeipiiagdaaLawK
import Derived.StillTailTactics
import Derived.Deep.RegionWith

/-
  The document's answer of layer 4: subbed, shifted.
-/
namespace Go.Proofs.Ytgcfaeipiiagdaa
open Go.RowKit

def Aes.byT (T s : List Nat) : List Nat := (List.range s.length).map fun i => T.getD (s.getD i 0) 0

set_option maxRecDepth 100000 in
set_option maxHeartbeats 2000000 in
theorem refSubbed_any (s : ByteArray) (T : List Nat) (hT : T.length = 256) (hs : s.size ≤ 1000000000) (w : World) :
    Calls Try.prog 35 #[.string s, .agg (Bs.vals T)] w fun e w' => e = .returned (.string (strOf (Aes.byT T (bytesOf s)))) ∧ Below w.heap.size w w' := by
  obtain ⟨i0, hi0, hz0, hz1, hz2⟩ := info_parts LawA.infoByte
  have hRl : (Aes.byT T (bytesOf s)).length = s.size := by simp [Aes.byT, bytesOf_length]
  have hRg : ∀ i, i < s.size → (Aes.byT T (bytesOf s)).getD i 0 = T.getD ((bytesOf s).getD i 0) 0 := fun i hi => by
    have h : i < (bytesOf s).length := by rw [bytesOf_length]; exact hi
    simp [Aes.byT, List.getD_eq_getElem?_getD, h]
  obtain ⟨R, hR⟩ : ∃ R, Aes.byT T (bytesOf s) = R := ⟨_, rfl⟩
  rw [hR] at hRl hRg
  have HRg := Lib.hid hRg
  have HR := Lib.hid hR
  have hbox := Row.new w 67 (Bs.vals T)
  have hB0 : Below w.heap.size w (w.alloc (.cells (Bs.vals T) 67)) := (Below.refl _ w).alloc (Nat.le_refl _) _
  obtain ⟨w0, hw0⟩ : ∃ w0, w.alloc (.cells (Bs.vals T) 67) = w0 := ⟨_, rfl⟩
  rw [hw0] at hbox hB0
  have hgl := hbox.lt
  have Hst := Lib.hid (AppAt.start R w0 w0 (Below.refl _ _))
  have Hbox := Lib.hid hbox
  have HB0 := Lib.hid hB0
  have Hw0 := Lib.hid hw0
  clear hRg hR hbox hB0 hw0
  go_enter Try.func35, Try.ntmps35
  go_wp2
  rw [show w.alloc (.cells (Bs.vals T) 67) = w0 from Hw0.out]
  clear Hw0
  go_loopw [5, 6] (fun vb vi wr => AppAt R w0 vb vi wr) (fun _ vi _ => R.length - (intOf vi).toNat)
  case atStart => exact Hst.out
  case round =>
    clear Hst
    obtain ⟨i, hi, rfl, hown, hB⟩ := hrel
    by_cases hlt : i < s.size
    · have hlt' : (i : Int) < (s.size : Int) := by omega
      have hx1 := fun W => idx_string s (i : Int) i rfl hlt W
      have hxl := bytesOf_all s i
      have hg := HRg.out i hlt
      have hrow := Hbox.out.below hB hgl
      have hcell := hrow.cell ((bytesOf s).getD i 0)
      rw [Bs.get T (by omega)] at hcell
      have hxi : (((bytesOf s).getD i 0 : Nat) : Int) < 256 := by omega
      have Hg := Lib.hid hg
      clear hg hrow
      generalize T.getD ((bytesOf s).getD i 0) 0 = z at *
      generalize (bytesOf s).getD i 0 = x at *
      have hnews : ∀ j u, [U z][j]? = some u → (wr.alloc (.cells #[U z] 5)).cell? ((⟨wr.heap.size, 0, none⟩ : Addr).add j) = some u := fun j u hu => by
        rw [Addr.add_mid, Nat.zero_add]
        exact ((Row.new wr 5 #[U z]).cell j).trans (by simpa using hu)
      have Hnews := Lib.hid hnews
      have Hown := Lib.hid (hown.alloc (.cells #[U z] 5))
      have HB := Lib.hid (hB.alloc hB.size (.cells #[U z] 5))
      have hil : i ≤ 1000000000 := by omega
      clear hnews hown hB
      go_wp2_with (at_builtin; go_must (refine wpList_append_own _ rfl _ _ 35 rfl w0.heap.size 5 i0 _ 1 1 Try.underlying35 hi0 hz0 hz1 hz2 rfl (by decide) _ _ _ rfl Hown.out ⟨wr.heap.size, 0, none⟩ 1 1 [U z] rfl rfl Hnews.out (by simp [Value.oneCell']) (by unfold maxLen; omega) (by omega) HB.out.size ?_); intro v' w2 hown' hgrow _)
      have Hnx := Lib.hid (AppAt.next (by omega) Hg.out HB.out (fun k e => (Hown.out.lt k e).1) hown' (keep_grown hgrow))
      go_roundw
      case rel => exact Hnx.out
      case measure => simp [intOf]; omega
    · obtain rfl : i = R.length := by omega
      have hlt' : ¬ ((R.length : Nat) : Int) < (s.size : Int) := by omega
      rw [List.take_length] at hown
      have hcv := conv_owned rfl hown
      have HB := Lib.hid (below_seq HB0.out hB)
      clear hown hB
      go_wp2
      go_ret
      exact ⟨by rw [HR.out]; rfl, HB.out⟩

/-- Columns of R on their way. -/
def ShCol (R : List Nat) (w : World) (vb vc : Value) (wr : World) : Prop :=
  ∃ c : Nat, c ≤ 4 ∧ vc = .int .i64 (c : Int) ∧ wr.ownsRow w.heap.size 5 1 vb (4 * c) ((R.take (4 * c)).map U) ∧ Below w.heap.size w wr
theorem ShCol.start (R : List Nat) (w wr : World) (h : Below w.heap.size w wr) : ShCol R w (.slice none 0 0) (.int .i64 0) wr :=
  ⟨0, Nat.zero_le _, rfl, by simpa using World.ownsRow_nil wr w.heap.size _ 1, h⟩
/-- .. and bytes of column c. -/
def ShCell (R : List Nat) (w : World) (c : Nat) (vb vr : Value) (wr : World) : Prop :=
  ∃ r : Nat, r ≤ 4 ∧ vr = .int .i64 (r : Int) ∧ wr.ownsRow w.heap.size 5 1 vb (4 * c + r) ((R.take (4 * c + r)).map U) ∧ Below w.heap.size w wr
theorem ShCell.next {R : List Nat} {w wr w2 : World} {vb v' : Value} {c r : Nat} {x : Nat} (hi : 4 * c + r < R.length) (hr : r < 4) (hx : R.getD (4 * c + r) 0 = x) (hB : Below w.heap.size w wr) (hvb : ∀ k, vb.ownBlock = some k → w.heap.size ≤ k)
    (hown : w2.ownsRow w.heap.size 5 1 v' (4 * c + r + 1) ((R.take (4 * c + r)).map U ++ [U x])) (hgrow : Keep (fun k => vb.ownBlock ≠ some k) wr w2) : ShCell R w c v' (.int .i64 ((r : Int) + 1)) w2 := by
  obtain ⟨i, h1, h2, h3, h4⟩ := AppAt.next (i := 4 * c + r) hi hx hB hvb hown hgrow
  have e : i = 4 * c + (r + 1) := by
    simp only [Value.int.injEq, true_and] at h2
    omega
  subst e
  exact ⟨r + 1, hr, by go_num, h3, h4⟩

set_option maxRecDepth 100000 in
set_option maxHeartbeats 2000000 in
theorem refShifted1 (s : ByteArray) (hs : s.size = 16) (w : World) :
    Calls Try.prog 34 #[.string s, .int .i64 1] w fun e w' => e = .returned (.string (strOf (Aes.move 1 (bytesOf s)))) ∧ Below w.heap.size w w' := by
  obtain ⟨i0, hi0, hz0, hz1, hz2⟩ := info_parts LawA.infoByte
  have hRl := Aes.move_length 1 (bytesOf s)
  have hRg : ∀ c r, c < 4 → r < 4 → (Aes.move 1 (bytesOf s)).getD (4 * c + r) 0 = (bytesOf s).getD (4 * ((c + 1 * r) % 4) + r) 0 := fun c r hc hr => by
    rw [Aes.move_get (by omega)]
    congr 1
    omega
  obtain ⟨R, hR⟩ : ∃ R, Aes.move 1 (bytesOf s) = R := ⟨_, rfl⟩
  rw [hR] at hRl hRg
  have HRg := Lib.hid hRg
  have HR := Lib.hid hR
  have Hst := Lib.hid (ShCol.start R w w (Below.refl _ _))
  clear hRg hR
  go_enter Try.func34, Try.ntmps34
  go_wp2
  go_loopw [5, 6] (fun vb vc wr => ShCol R w vb vc wr) (fun _ vc _ => 4 - (intOf vc).toNat)
  case atStart => exact Hst.out
  case round =>
    clear Hst
    obtain ⟨c, hc, rfl, hown, hB⟩ := hrel
    by_cases hlt : c < 4
    · have hlt' : (c : Int) < 4 := by omega
      have Hst2 : Hid (ShCell R w c u5 (.int .i64 0) wr) := Lib.hid ⟨0, by decide, rfl, by rw [Nat.add_zero]; exact hown, hB⟩
      clear hown hB
      go_wp2
      go_loopw [5, 7] (fun vb vr wr => ShCell R w c vb vr wr) (fun _ vr _ => 4 - (intOf vr).toNat)
      case atStart => exact Hst2.out
      case round =>
        clear Hst2
        obtain ⟨r, hr, rfl, hown, hB⟩ := hrel
        by_cases hrt : r < 4
        · have hrt' : (r : Int) < 4 := by omega
          have hx := fun W => idx_string s (4 * (((c : Int) + (r : Int)) % 4) + (r : Int)) (4 * ((c + 1 * r) % 4) + r) (by omega) (by omega) W
          have hg := HRg.out c r hlt hrt
          have Hg := Lib.hid hg
          clear hg
          generalize (bytesOf s).getD (4 * ((c + 1 * r) % 4) + r) 0 = z at *
          have hnews : ∀ j u, [U z][j]? = some u → (wr.alloc (.cells #[U z] 5)).cell? ((⟨wr.heap.size, 0, none⟩ : Addr).add j) = some u := fun j u hu => by
            rw [Addr.add_mid, Nat.zero_add]
            exact ((Row.new wr 5 #[U z]).cell j).trans (by simpa using hu)
          have Hnews := Lib.hid hnews
          have Hown := Lib.hid (hown.alloc (.cells #[U z] 5))
          have HB := Lib.hid (hB.alloc hB.size (.cells #[U z] 5))
          clear hnews hown hB
          go_wp2_with (at_builtin; go_must (refine wpList_append_own _ rfl _ _ 35 rfl w.heap.size 5 i0 _ 1 1 Try.underlying35 hi0 hz0 hz1 hz2 rfl (by decide) _ _ _ rfl Hown.out ⟨wr.heap.size, 0, none⟩ 1 1 [U z] rfl rfl Hnews.out (by simp [Value.oneCell']) (by unfold maxLen; omega) (by omega) HB.out.size ?_); intro v' w2 hown' hgrow _)
          have Hnx := Lib.hid (ShCell.next (by omega) hrt Hg.out HB.out (fun k e => (Hown.out.lt k e).1) hown' (keep_grown hgrow))
          go_roundw
          case rel => exact Hnx.out
          case measure => simp [intOf]; omega
        · obtain rfl : r = 4 := by omega
          have hrt' : ¬ ((4 : Nat) : Int) < 4 := by decide
          have Hnx : Hid (ShCol R w u5 (.int .i64 ((c : Int) + 1)) wr) := Lib.hid ⟨c + 1, by omega, by go_num, hown, hB⟩
          clear hown hB
          go_wp2
          go_roundw
          case rel => exact Hnx.out
          case measure => simp [intOf]; omega
    · obtain rfl : c = 4 := by omega
      have hlt' : ¬ ((4 : Nat) : Int) < 4 := by decide
      rw [List.take_of_length_le (by omega)] at hown
      have hcv := conv_owned hRl hown
      have HB := Lib.hid hB
      clear hown hB
      go_wp2
      go_ret
      exact ⟨by rw [HR.out]; rfl, HB.out⟩

set_option maxRecDepth 100000 in
set_option maxHeartbeats 2000000 in
theorem refShifted3 (s : ByteArray) (hs : s.size = 16) (w : World) :
    Calls Try.prog 34 #[.string s, .int .i64 3] w fun e w' => e = .returned (.string (strOf (Aes.move 3 (bytesOf s)))) ∧ Below w.heap.size w w' := by
  obtain ⟨i0, hi0, hz0, hz1, hz2⟩ := info_parts LawA.infoByte
  have hRl := Aes.move_length 3 (bytesOf s)
  have hRg : ∀ c r, c < 4 → r < 4 → (Aes.move 3 (bytesOf s)).getD (4 * c + r) 0 = (bytesOf s).getD (4 * ((c + 3 * r) % 4) + r) 0 := fun c r hc hr => by
    rw [Aes.move_get (by omega)]
    congr 1
    omega
  obtain ⟨R, hR⟩ : ∃ R, Aes.move 3 (bytesOf s) = R := ⟨_, rfl⟩
  rw [hR] at hRl hRg
  have HRg := Lib.hid hRg
  have HR := Lib.hid hR
  have Hst := Lib.hid (ShCol.start R w w (Below.refl _ _))
  clear hRg hR
  go_enter Try.func34, Try.ntmps34
  go_wp2
  go_loopw [5, 6] (fun vb vc wr => ShCol R w vb vc wr) (fun _ vc _ => 4 - (intOf vc).toNat)
  case atStart => exact Hst.out
  case round =>
    clear Hst
    obtain ⟨c, hc, rfl, hown, hB⟩ := hrel
    by_cases hlt : c < 4
    · have hlt' : (c : Int) < 4 := by omega
      have Hst2 : Hid (ShCell R w c u5 (.int .i64 0) wr) := Lib.hid ⟨0, by decide, rfl, by rw [Nat.add_zero]; exact hown, hB⟩
      clear hown hB
      go_wp2
      go_loopw [5, 7] (fun vb vr wr => ShCell R w c vb vr wr) (fun _ vr _ => 4 - (intOf vr).toNat)
      case atStart => exact Hst2.out
      case round =>
        clear Hst2
        obtain ⟨r, hr, rfl, hown, hB⟩ := hrel
        by_cases hrt : r < 4
        · have hrt' : (r : Int) < 4 := by omega
          have hx := fun W => idx_string s (4 * (((c : Int) + 3 * (r : Int)) % 4) + (r : Int)) (4 * ((c + 3 * r) % 4) + r) (by omega) (by omega) W
          have hg := HRg.out c r hlt hrt
          have Hg := Lib.hid hg
          clear hg
          generalize (bytesOf s).getD (4 * ((c + 3 * r) % 4) + r) 0 = z at *
          have hnews : ∀ j u, [U z][j]? = some u → (wr.alloc (.cells #[U z] 5)).cell? ((⟨wr.heap.size, 0, none⟩ : Addr).add j) = some u := fun j u hu => by
            rw [Addr.add_mid, Nat.zero_add]
            exact ((Row.new wr 5 #[U z]).cell j).trans (by simpa using hu)
          have Hnews := Lib.hid hnews
          have Hown := Lib.hid (hown.alloc (.cells #[U z] 5))
          have HB := Lib.hid (hB.alloc hB.size (.cells #[U z] 5))
          clear hnews hown hB
          go_wp2_with (at_builtin; go_must (refine wpList_append_own _ rfl _ _ 35 rfl w.heap.size 5 i0 _ 1 1 Try.underlying35 hi0 hz0 hz1 hz2 rfl (by decide) _ _ _ rfl Hown.out ⟨wr.heap.size, 0, none⟩ 1 1 [U z] rfl rfl Hnews.out (by simp [Value.oneCell']) (by unfold maxLen; omega) (by omega) HB.out.size ?_); intro v' w2 hown' hgrow _)
          have Hnx := Lib.hid (ShCell.next (by omega) hrt Hg.out HB.out (fun k e => (Hown.out.lt k e).1) hown' (keep_grown hgrow))
          go_roundw
          case rel => exact Hnx.out
          case measure => simp [intOf]; omega
        · obtain rfl : r = 4 := by omega
          have hrt' : ¬ ((4 : Nat) : Int) < 4 := by decide
          have Hnx : Hid (ShCol R w u5 (.int .i64 ((c : Int) + 1)) wr) := Lib.hid ⟨c + 1, by omega, by go_num, hown, hB⟩
          clear hown hB
          go_wp2
          go_roundw
          case rel => exact Hnx.out
          case measure => simp [intOf]; omega
    · obtain rfl : c = 4 := by omega
      have hlt' : ¬ ((4 : Nat) : Int) < 4 := by decide
      rw [List.take_of_length_le (by omega)] at hown
      have hcv := conv_owned hRl hown
      have HB := Lib.hid hB
      clear hown hB
      go_wp2
      go_ret
      exact ⟨by rw [HR.out]; rfl, HB.out⟩

end Go.Proofs.Ytgcfaeipiiagdaa

/-
  Plain: the document's answer of layer 4 computes what the program's functions compute.
-/
namespace Go.Proofs.Ytgcfaeipiiagdaa
namespace Aes

theorem xorL_add {a b : List Nat} (ha : a.length = 16) : xorL a b = add a b := by rw [xorL, ha]; rfl
theorem byT_subs {s : List Nat} (hs : s.length = 16) (ha : Bs.All s) : byT Fld.subsT s = each Fld.sub s := by
  rw [byT, hs]
  exact range_ext fun i _ => Fld.subsT_get (ha i)
theorem byT_backs {s : List Nat} (hs : s.length = 16) (ha : Bs.All s) : byT Fld.backsT s = each Fld.back s := by
  rw [byT, hs]
  exact range_ext fun i _ => Fld.backsT_get (ha i)

theorem mx_thrice {s : List Nat} (hs : s.length = 16) (ha : Bs.All s) : columns Fld.mx (columns Fld.mx (columns Fld.mx s)) = columns Fld.ux s := by
  have e : columns Fld.mx (columns Fld.mx (columns Fld.mx (columns Fld.mx s))) = s := by
    conv => rhs; rw [← range_self hs]
    rw [columns]
    refine range_ext fun i hi => ?_
    have e0 : 4 * (i / 4) < 16 := by omega
    have e1 : 4 * (i / 4) + 1 < 16 := by omega
    have e2 : 4 * (i / 4) + 2 < 16 := by omega
    have e3 : 4 * (i / 4) + 3 < 16 := by omega
    have d0 : 4 * (i / 4) / 4 = i / 4 := by omega
    have d1 : (4 * (i / 4) + 1) / 4 = i / 4 := by omega
    have d2 : (4 * (i / 4) + 2) / 4 = i / 4 := by omega
    have d3 : (4 * (i / 4) + 3) / 4 = i / 4 := by omega
    have m0 : 4 * (i / 4) % 4 = 0 := by omega
    have m1 : (4 * (i / 4) + 1) % 4 = 1 := by omega
    have m2 : (4 * (i / 4) + 2) % 4 = 2 := by omega
    have m3 : (4 * (i / 4) + 3) % 4 = 3 := by omega
    simp only [columns_get e0, columns_get e1, columns_get e2, columns_get e3, d0, d1, d2, d3, m0, m1, m2, m3]
    obtain ⟨f0, f1, f2, f3⟩ := Fld.mix_four (ha (4 * (i / 4))) (ha (4 * (i / 4) + 1)) (ha (4 * (i / 4) + 2)) (ha (4 * (i / 4) + 3)) ⟨rfl, rfl, rfl, rfl⟩ ⟨rfl, rfl, rfl, rfl⟩ ⟨rfl, rfl, rfl, rfl⟩
    rcases (show i % 4 = 0 ∨ i % 4 = 1 ∨ i % 4 = 2 ∨ i % 4 = 3 by omega) with h | h | h | h <;> rw [h]
    · rw [f0]; congr 1; omega
    · rw [f1]; congr 1; omega
    · rw [f2]; congr 1; omega
    · rw [f3]; congr 1; omega
  have h := ux_mx (columns_length _ _) (columns_all (s := columns Fld.mx (columns Fld.mx s)) Fld.mx_lt)
  rw [e] at h
  exact h.symm

theorem extract_strOf {l : List Nat} {a b : Nat} (hl : Bs.All l) (hb : b ≤ l.length) : (strOf l).extract a b = strOf ((l.drop a).take (b - a)) := by
  rw [← strOf_bytesOf (ByteArray.extract _ _ _), bytesOf_extract _ _ _ (by rw [strOf_size]; exact hb), bytesOf_strOf hl]
theorem append_strOf (l m : List Nat) : strOf l ++ strOf m = strOf (l ++ m) := by
  have h : ∀ a b : ByteArray, a.data = b.data → a = b := fun a b h => by cases a; cases b; simpa using h
  apply h
  simp [strOf, ByteArray.data_append]

end Aes
end Go.Proofs.Ytgcfaeipiiagdaa

/-
  The document's answer of layer 3: Mix.
-/
namespace Go.Proofs.Ytgcfaeipiiagdaa
open Go.RowKit

/-- Where the reference's Mix stands. -/
def RMixAt (g : Nat) (R : List Nat) (w : World) (vi : Value) (wr : World) : Prop :=
  ∃ i : Nat, i ≤ 4 ∧ vi = .int .i64 (i : Int) ∧ Row wr g 88 (Bs.vals (Bs.upTo i R (List.replicate 4 0))) ∧ Keep (fun k => k ≠ g) w wr
theorem RMixAt.next {g : Nat} {R : List Nat} {w wr : World} {i : Nat} (hR : R.length = 4) (hi : i < 4) (hr : Row wr g 88 (Bs.vals (Bs.upTo i R (List.replicate 4 0)))) (hk : Keep (fun k => k ≠ g) w wr) :
    RMixAt g R w (.int .i64 ((i : Int) + 1)) (wr.setCell ⟨g, i, none⟩ (U (R.getD i 0))) := by
  have h := hr.store i (U (R.getD i 0))
  rw [Bs.set, upTo_next R 4 hR hi] at h
  exact ⟨i + 1, hi, by go_num, h, hk.setCell (p := ⟨g, i, none⟩) (fun h => absurd rfl h) _⟩
theorem RMixAt.drew {g : Nat} {R : List Nat} {w wr : World} {vi : Value} (h : RMixAt g R w vi wr) : RMixAt g R w vi wr.drew := by
  obtain ⟨i, h1, h2, h3, h4⟩ := h
  exact ⟨i, h1, h2, h3.drew, h4.drew⟩

set_option maxRecDepth 100000 in
set_option maxHeartbeats 4000000 in
theorem refMix_any (c0 c1 c2 c3 : Nat) (h0 : c0 < 256) (h1 : c1 < 256) (h2 : c2 < 256) (h3 : c3 < 256) (w : World) :
    Calls Try.prog 43 #[.agg #[U c0, U c1, U c2, U c3]] w fun e w' =>
      e = .returned (.agg #[U (Fld.mx [c0, c1, c2, c3] 0), U (Fld.mx [c0, c1, c2, c3] 1), U (Fld.mx [c0, c1, c2, c3] 2), U (Fld.mx [c0, c1, c2, c3] 3)]) ∧ Below w.heap.size w w' := by
  obtain ⟨m0, m1, m2, m3⟩ := Fld.mx_eq c0 c1 c2 c3
  rw [Fld.mul_one' c2 h2, Fld.mul_one' c3 h3] at m0
  rw [Fld.mul_one' c3 h3, Fld.mul_one' c0 h0] at m1
  rw [Fld.mul_one' c0 h0, Fld.mul_one' c1 h1] at m2
  rw [Fld.mul_one' c1 h1, Fld.mul_one' c2 h2] at m3
  have A0 := Fld.mul_lt 2 c0 (by decide)
  have B0 := Fld.mul_lt 3 c1 (by decide)
  have x0a := u8_xor_nat _ _ A0 B0
  have x0b := u8_xor_nat _ _ (Nat.xor_lt_two_pow (n := 8) A0 B0) h2
  have x0c := u8_xor_nat _ _ (Nat.xor_lt_two_pow (n := 8) (Nat.xor_lt_two_pow (n := 8) A0 B0) h2) h3
  rw [← m0] at x0c
  have K0a := Lib.hid (mulNat 2 c0 (by decide) h0)
  have K0b := Lib.hid (mulNat 3 c1 (by decide) h1)
  have A1 := Fld.mul_lt 2 c1 (by decide)
  have B1 := Fld.mul_lt 3 c2 (by decide)
  have x1a := u8_xor_nat _ _ A1 B1
  have x1b := u8_xor_nat _ _ (Nat.xor_lt_two_pow (n := 8) A1 B1) h3
  have x1c := u8_xor_nat _ _ (Nat.xor_lt_two_pow (n := 8) (Nat.xor_lt_two_pow (n := 8) A1 B1) h3) h0
  rw [← m1] at x1c
  have K1a := Lib.hid (mulNat 2 c1 (by decide) h1)
  have K1b := Lib.hid (mulNat 3 c2 (by decide) h2)
  have A2 := Fld.mul_lt 2 c2 (by decide)
  have B2 := Fld.mul_lt 3 c3 (by decide)
  have x2a := u8_xor_nat _ _ A2 B2
  have x2b := u8_xor_nat _ _ (Nat.xor_lt_two_pow (n := 8) A2 B2) h0
  have x2c := u8_xor_nat _ _ (Nat.xor_lt_two_pow (n := 8) (Nat.xor_lt_two_pow (n := 8) A2 B2) h0) h1
  rw [← m2] at x2c
  have K2a := Lib.hid (mulNat 2 c2 (by decide) h2)
  have K2b := Lib.hid (mulNat 3 c3 (by decide) h3)
  have A3 := Fld.mul_lt 2 c3 (by decide)
  have B3 := Fld.mul_lt 3 c0 (by decide)
  have x3a := u8_xor_nat _ _ A3 B3
  have x3b := u8_xor_nat _ _ (Nat.xor_lt_two_pow (n := 8) A3 B3) h1
  have x3c := u8_xor_nat _ _ (Nat.xor_lt_two_pow (n := 8) (Nat.xor_lt_two_pow (n := 8) A3 B3) h1) h2
  rw [← m3] at x3c
  have K3a := Lib.hid (mulNat 2 c3 (by decide) h3)
  have K3b := Lib.hid (mulNat 3 c0 (by decide) h0)
  obtain ⟨r0, hr0⟩ : ∃ r, Fld.mx [c0, c1, c2, c3] 0 = r := ⟨_, rfl⟩
  rw [hr0] at x0c ⊢
  obtain ⟨r1, hr1⟩ : ∃ r, Fld.mx [c0, c1, c2, c3] 1 = r := ⟨_, rfl⟩
  rw [hr1] at x1c ⊢
  obtain ⟨r2, hr2⟩ : ∃ r, Fld.mx [c0, c1, c2, c3] 2 = r := ⟨_, rfl⟩
  rw [hr2] at x2c ⊢
  obtain ⟨r3, hr3⟩ : ∃ r, Fld.mx [c0, c1, c2, c3] 3 = r := ⟨_, rfl⟩
  rw [hr3] at x3c ⊢
  clear m0 m1 m2 m3 hr0 hr1 hr2 hr3 A0 A1 A2 A3 B0 B1 B2 B3
  generalize Fld.mul 2 c0 = u0 at *
  generalize Fld.mul 3 c1 = v0 at *
  generalize Fld.mul 2 c1 = u1 at *
  generalize Fld.mul 3 c2 = v1 at *
  generalize Fld.mul 2 c2 = u2 at *
  generalize Fld.mul 3 c3 = v2 at *
  generalize Fld.mul 2 c3 = u3 at *
  generalize Fld.mul 3 c0 = v3 at *
  have hbox := ((Row.new w 88 #[U c0, U c1, U c2, U c3]).alloc (.cells #[U 0, U 0, U 0, U 0] 88)).alloc (.cells #[U 0, U 0, U 0, U 0] 88)
  have hres := (Row.new (w.alloc (.cells #[U c0, U c1, U c2, U c3] 88)) 88 #[U 0, U 0, U 0, U 0]).alloc (.cells #[U 0, U 0, U 0, U 0] 88)
  have hout := Row.new ((w.alloc (.cells #[U c0, U c1, U c2, U c3] 88)).alloc (.cells #[U 0, U 0, U 0, U 0] 88)) 88 #[U 0, U 0, U 0, U 0]
  rw [World.size_alloc] at hres
  rw [World.size_alloc, World.size_alloc] at hout
  have hB : Below w.heap.size w (((w.alloc (.cells #[U c0, U c1, U c2, U c3] 88)).alloc (.cells #[U 0, U 0, U 0, U 0] 88)).alloc (.cells #[U 0, U 0, U 0, U 0] 88)) := (((Below.refl _ w).alloc (Nat.le_refl _) _).alloc (by simp) _).alloc (by simp; omega) _
  obtain ⟨w3, hw3⟩ : ∃ w3, ((w.alloc (.cells #[U c0, U c1, U c2, U c3] 88)).alloc (.cells #[U 0, U 0, U 0, U 0] 88)).alloc (.cells #[U 0, U 0, U 0, U 0] 88) = w3 := ⟨_, rfl⟩
  rw [hw3] at hbox hres hout hB
  have hst : RMixAt (w.heap.size + 1 + 1) [r0, r1, r2, r3] w3 (.int .i64 0) w3 := ⟨0, by decide, rfl, hout, Keep.refl _ _⟩
  have Hst := Lib.hid hst
  have Hbox := Lib.hid hbox
  have Hres := Lib.hid hres
  have HB := Lib.hid hB
  have Hw3 := Lib.hid hw3
  have hwk : ∀ z : Int, -100 ≤ z ∧ z ≤ 100 → IntKind.i64.wrap z = z := fun z h => IntWalk.i64_in _ (by omega)
  have k1 := hwk 1 (by decide)
  have k2 := hwk 2 (by decide)
  have k3 := hwk 3 (by decide)
  have k4 := hwk 4 (by decide)
  have k5 := hwk 5 (by decide)
  have k6 := hwk 6 (by decide)
  clear hbox hres hout hB hw3 hst hwk
  go_enter Try.func43, Try.ntmps43
  go_wp2
  rw [show ((w.alloc (.cells #[U c0, U c1, U c2, U c3] 88)).alloc (.cells #[.int .u8 0, .int .u8 0, .int .u8 0, .int .u8 0] 88)).alloc (.cells #[.int .u8 0, .int .u8 0, .int .u8 0, .int .u8 0] 88) = w3 from Hw3.out]
  clear Hw3
  go_loopw [4] (fun vi wr => RMixAt (w.heap.size + 1 + 1) [r0, r1, r2, r3] w3 vi wr) (fun vi _ => 4 - (intOf vi).toNat)
  case atStart => exact Hst.out
  case round =>
    clear Hst
    obtain ⟨i, hi, rfl, hrow, hkeep⟩ := hrel
    by_cases hlt : i < 4
    · have hb := Hbox.out.keep hkeep (by omega)
      have p0 := hb.cell 0
      have p1 := hb.cell 1
      have p2 := hb.cell 2
      have p3 := hb.cell 3
      have hsl : i < (Bs.upTo i [r0, r1, r2, r3] (List.replicate 4 0)).length := by
        have h : (Bs.upTo i [r0, r1, r2, r3] (List.replicate 4 0)).length = 4 := Bs.upTo_length (old := List.replicate 4 0) rfl
        omega
      have hc := hrow.cell i
      rw [Bs.get _ hsl] at hc
      have hf := hrow.frozen i
      have Hnx := Lib.hid (RMixAt.next rfl hlt hrow hkeep)
      have Hnx2 := Lib.hid (RMixAt.drew Hnx.out)
      clear hsl hrow hkeep hb hi
      generalize (Bs.upTo i [r0, r1, r2, r3] (List.replicate 4 0)).getD i 0 = old at *
      rcases (show i = 0 ∨ i = 1 ∨ i = 2 ∨ i = 3 by omega) with rfl | rfl | rfl | rfl
      · go_wp2_with fail
        go_still_tail 25, (by kernel_rfl)
        still_call (K0a.out _)
        repeat still_step
        still_call (K0b.out _)
        repeat still_step
        refine wpStill_nil ?_
        change wpList _ _ _ _ _ wr.drew
        go_wp2
        go_roundw
        case rel => first | exact Hnx2.out | exact Hnx.out
        case measure => simp [intOf]
      · go_wp2_with fail
        go_still_tail 25, (by kernel_rfl)
        still_call (K1a.out _)
        repeat still_step
        still_call (K1b.out _)
        repeat still_step
        refine wpStill_nil ?_
        change wpList _ _ _ _ _ wr.drew
        go_wp2
        go_roundw
        case rel => first | exact Hnx2.out | exact Hnx.out
        case measure => simp [intOf]
      · go_wp2_with fail
        go_still_tail 25, (by kernel_rfl)
        still_call (K2a.out _)
        repeat still_step
        still_call (K2b.out _)
        repeat still_step
        refine wpStill_nil ?_
        change wpList _ _ _ _ _ wr.drew
        go_wp2
        go_roundw
        case rel => first | exact Hnx2.out | exact Hnx.out
        case measure => simp [intOf]
      · go_wp2_with fail
        go_still_tail 25, (by kernel_rfl)
        still_call (K3a.out _)
        repeat still_step
        still_call (K3b.out _)
        repeat still_step
        refine wpStill_nil ?_
        change wpList _ _ _ _ _ wr.drew
        go_wp2
        go_roundw
        case rel => first | exact Hnx2.out | exact Hnx.out
        case measure => simp [intOf]
    · obtain rfl : i = 4 := by omega
      have hup : Bs.upTo 4 [r0, r1, r2, r3] (List.replicate 4 0) = [r0, r1, r2, r3] := rfl
      rw [hup] at hrow
      have hr := Hres.out.keep hkeep (by omega)
      have hb := ((Keep.below (S := fun _ => True) HB.out).on hkeep (fun k _ hl => by omega)).toBelow (fun _ _ => trivial)
      obtain ⟨⟨q0, q1, q2, q3⟩, -, -, -, -⟩ := row_four (x0 := U r0) (x1 := U r1) (x2 := U r2) (x3 := U r3) hrow
      obtain ⟨⟨p0, p1, p2, p3⟩, f0, f1, f2, f3⟩ := row_four hr
      have Hr := Lib.hid hr
      have Hb := Lib.hid hb
      clear hrow hkeep hr hb Hbox Hres HB hi hlt
      go_wp2
      have hr4 := (((Hr.out.store 0 (U r0)).store 1 (U r1)).store 2 (U r2)).store 3 (U r3)
      refine bodyPost_ret (v := .agg #[U r0, U r1, U r2, U r3]) (results_cell_row rfl _ _ _ _ _ _ _ rfl hr4 Try.underlying88 rfl (by kernel_rfl)) rfl ⟨rfl, ?_⟩
      exact (((Hb.out.setCell (p := ⟨w.heap.size + 1, 0, none⟩) (by dsimp only; omega) _).setCell (p := ⟨w.heap.size + 1, 1, none⟩) (by dsimp only; omega) _).setCell (p := ⟨w.heap.size + 1, 2, none⟩) (by dsimp only; omega) _).setCell (p := ⟨w.heap.size + 1, 3, none⟩) (by dsimp only; omega) _

end Go.Proofs.Ytgcfaeipiiagdaa

/-
  The document's answer of layer 4: mixed.
-/
namespace Go.Proofs.Ytgcfaeipiiagdaa
open Go.RowKit

set_option maxRecDepth 100000 in
set_option maxHeartbeats 4000000 in
theorem refMixed_any (s : ByteArray) (hs : s.size = 16) (w : World) :
    Calls Try.prog 36 #[.string s] w fun e w' => e = .returned (.string (strOf (Aes.columns Fld.mx (bytesOf s)))) ∧ Below w.heap.size w w' := by
  obtain ⟨i0, hi0, hz0, hz1, hz2⟩ := info_parts LawA.infoByte
  have hRl := Aes.columns_length Fld.mx (bytesOf s)
  have hRg : ∀ c r, c < 4 → r < 4 → (Aes.columns Fld.mx (bytesOf s)).getD (4 * c + r) 0 = Fld.mx [(bytesOf s).getD (4 * c) 0, (bytesOf s).getD (4 * c + 1) 0, (bytesOf s).getD (4 * c + 2) 0, (bytesOf s).getD (4 * c + 3) 0] r := fun c r hc hr => by
    rw [Aes.columns_get (by omega), show (4 * c + r) / 4 = c by omega, show (4 * c + r) % 4 = r by omega]
  obtain ⟨R, hR⟩ : ∃ R, Aes.columns Fld.mx (bytesOf s) = R := ⟨_, rfl⟩
  rw [hR] at hRl hRg
  have HRg := Lib.hid hRg
  have HR := Lib.hid hR
  have Hst := Lib.hid (ShCol.start R w w (Below.refl _ _))
  clear hRg hR
  go_enter Try.func36, Try.ntmps36
  go_wp2
  go_loopw [3, 4] (fun vb vc wr => ShCol R w vb vc wr) (fun _ vc _ => 4 - (intOf vc).toNat)
  case atStart => exact Hst.out
  case round =>
    clear Hst
    obtain ⟨c, hc, rfl, hown, hB⟩ := hrel
    by_cases hlt : c < 4
    · have hlt' : (c : Int) < 4 := by omega
      have e0 := fun W => idx_string s (4 * (c : Int)) (4 * c) (by omega) (by omega) W
      have e1 := fun W => idx_string s (4 * (c : Int) + 1) (4 * c + 1) (by omega) (by omega) W
      have e2 := fun W => idx_string s (4 * (c : Int) + 2) (4 * c + 2) (by omega) (by omega) W
      have e3 := fun W => idx_string s (4 * (c : Int) + 3) (4 * c + 3) (by omega) (by omega) W
      have w0 : IntKind.i64.wrap (4 * (c : Int)) = 4 * (c : Int) := IntWalk.i64_in _ (by omega)
      have w1 : IntKind.i64.wrap (4 * (c : Int) + 1) = 4 * (c : Int) + 1 := IntWalk.i64_in _ (by omega)
      have w2 : IntKind.i64.wrap (4 * (c : Int) + 2) = 4 * (c : Int) + 2 := IntWalk.i64_in _ (by omega)
      have w3 : IntKind.i64.wrap (4 * (c : Int) + 3) = 4 * (c : Int) + 3 := IntWalk.i64_in _ (by omega)
      have HM := Lib.hid (refMix_any _ _ _ _ (bytesOf_all s (4 * c)) (bytesOf_all s (4 * c + 1)) (bytesOf_all s (4 * c + 2)) (bytesOf_all s (4 * c + 3)))
      have g0 := HRg.out c 0 hlt (by decide)
      have g1 := HRg.out c 1 hlt (by decide)
      have g2 := HRg.out c 2 hlt (by decide)
      have g3 := HRg.out c 3 hlt (by decide)
      rw [← g0, ← g1, ← g2, ← g3] at HM
      have htk : R.take (4 * (c + 1)) = R.take (4 * c) ++ [R.getD (4 * c + 0) 0, R.getD (4 * c + 1) 0, R.getD (4 * c + 2) 0, R.getD (4 * c + 3) 0] := Bs.take_four (by omega)
      have Htk := Lib.hid htk
      have Hown := Lib.hid hown
      have HB := Lib.hid hB
      clear g0 g1 g2 g3 htk hown hB
      generalize (bytesOf s).getD (4 * c) 0 = x0 at *
      generalize (bytesOf s).getD (4 * c + 1) 0 = x1 at *
      generalize (bytesOf s).getD (4 * c + 2) 0 = x2 at *
      generalize (bytesOf s).getD (4 * c + 3) 0 = x3 at *
      generalize R.getD (4 * c + 0) 0 = y0 at *
      generalize R.getD (4 * c + 1) 0 = y1 at *
      generalize R.getD (4 * c + 2) 0 = y2 at *
      generalize R.getD (4 * c + 3) 0 = y3 at *
      go_upto_region 5 with fail
      go_cut [5] from 10 to 30 (fun vm wx => ∃ gm : Nat, vm = .pointer (some ⟨gm, 0, none⟩) ∧ Row wx gm 88 #[U y0, U y1, U y2, U y3] ∧ wx.ownsRow w.heap.size 5 1 u3 (4 * c) ((R.take (4 * c)).map U) ∧ Below w.heap.size w wx)
      case first =>
        refine wp_region_any (by kernel_rfl) ?_
        change wpAny _ _ _ _ _ _ _ (World.drew wr)
        refine wpAny_take (i := 0) (v := ?_) rfl (by kernel_rfl) (by kernel_rfl) (by kernel_rfl) (fun _ _ _ h => h) (Or.inl ⟨by rfl, fun _ => by go_simp; rfl⟩) ?_
        refine wpAny_take (i := 1) (v := ?_) rfl (by kernel_rfl) (by kernel_rfl) (by kernel_rfl) (fun _ _ _ h => h) (Or.inl ⟨by rfl, fun _ => by go_simp; rfl⟩) ?_
        refine wpAny_take (i := 2) (v := ?_) rfl (by kernel_rfl) (by kernel_rfl) (by kernel_rfl) (fun _ _ _ h => h) (Or.inl ⟨by rfl, fun _ => by go_simp; rfl⟩) ?_
        refine wpAny_take (i := 3) (v := ?_) rfl (by kernel_rfl) (by kernel_rfl) (by kernel_rfl) (fun _ _ _ h => h) (Or.inl ⟨by rfl, fun _ => by go_simp; rfl⟩) ?_
        refine wpAny_take (i := 4) (v := ?_) rfl (by kernel_rfl) (by kernel_rfl) (by kernel_rfl) (fun _ _ _ h => h) (Or.inl ⟨by rfl, fun _ => by go_simp; rfl⟩) ?_
        refine wpAny_take (i := 5) (v := ?_) rfl (by kernel_rfl) (by kernel_rfl) (by kernel_rfl) (fun _ _ _ h => h) (Or.inl ⟨by rfl, fun _ => by go_simp; rfl⟩) ?_
        refine wpAny_take (i := 6) (v := ?_) rfl (by kernel_rfl) (by kernel_rfl) (by kernel_rfl) (fun _ _ _ h => h) (Or.inl ⟨by rfl, fun _ => by go_simp; rfl⟩) ?_
        refine wpAny_take (i := 7) (v := ?_) rfl (by kernel_rfl) (by kernel_rfl) (by kernel_rfl) (fun _ _ _ h => h) (Or.inl ⟨by rfl, fun _ => by go_simp; rfl⟩) ?_
        refine wpAny_take (i := 8) (v := ?_) rfl (by kernel_rfl) (by kernel_rfl) (by kernel_rfl) (fun _ _ _ h => h) (Or.inl ⟨by rfl, fun _ => by go_simp; rfl⟩) ?_
        refine wpAny_take (i := 9) (v := ?_) rfl (by kernel_rfl) (by kernel_rfl) (by kernel_rfl) (fun _ _ _ h => h) (Or.inl ⟨by rfl, fun _ => by go_simp; rfl⟩) ?_
        refine wpAny_take (i := 10) (v := ?_) rfl (by kernel_rfl) (by kernel_rfl) (by kernel_rfl) (fun _ _ _ h => h) (Or.inl ⟨by rfl, fun _ => by go_simp; rfl⟩) ?_
        refine wpAny_take (i := 11) (v := ?_) rfl (by kernel_rfl) (by kernel_rfl) (by kernel_rfl) (fun _ _ _ h => h) (Or.inl ⟨by rfl, fun _ => by go_simp; rfl⟩) ?_
        refine wpAny_take (i := 12) (v := ?_) rfl (by kernel_rfl) (by kernel_rfl) (by kernel_rfl) (fun _ _ _ h => h) (Or.inl ⟨by rfl, fun _ => by go_simp; rfl⟩) ?_
        refine wpAny_take (i := 13) (v := ?_) rfl (by kernel_rfl) (by kernel_rfl) (by kernel_rfl) (fun _ _ _ h => h) (Or.inl ⟨by rfl, fun _ => by go_simp; rfl⟩) ?_
        refine wpAny_take (i := 14) (v := ?_) rfl (by kernel_rfl) (by kernel_rfl) (by kernel_rfl) (fun _ _ _ h => h) (Or.inl ⟨by rfl, fun _ => by go_simp; rfl⟩) ?_
        refine wpAny_take (i := 15) (v := ?_) rfl (by kernel_rfl) (by kernel_rfl) (by kernel_rfl) (fun _ _ _ h => h) (Or.inl ⟨by rfl, fun _ => by go_simp; rfl⟩) ?_
        refine wpAny_take (i := 16) (v := ?_) rfl (by kernel_rfl) (by kernel_rfl) (by kernel_rfl) (fun _ _ _ h => h) (Or.inl ⟨by rfl, fun _ => by go_simp; rfl⟩) ?_
        refine wpAny_take (i := 17) (v := ?_) rfl (by kernel_rfl) (by kernel_rfl) (by kernel_rfl) (fun _ _ _ h => h) (Or.inl ⟨by rfl, fun _ => by go_simp; rfl⟩) ?_
        refine wpAny_take (i := 18) (v := ?_) rfl (by kernel_rfl) (by kernel_rfl) (by kernel_rfl) (fun _ _ _ h => h) (Or.inl ⟨by rfl, fun _ => by go_simp; rfl⟩) ?_
        refine wpAny_take (i := 19) (v := ?_) rfl (by kernel_rfl) (by kernel_rfl) (by kernel_rfl) (fun _ _ _ h => h) (Or.inl ⟨by rfl, fun _ => by go_simp; rfl⟩) ?_
        refine wpAny_ready (rs := [20, 21]) (by kernel_rfl) (by simp) ?_
        refine AllReady.cons rfl (fun K hK => ?_) (AllReady.cons rfl (fun K hK => ?_) AllReady.nil)
        · go_simp
          refine (HM.out _).mono ?_
          rintro e w4 ⟨rfl, hb4⟩
          refine hK _ _ ?_
          clear hK K
          have Hown4 := Lib.hid (owns_below Hown.out (below_drew hb4))
          have HB4 := Lib.hid (below_seq HB.out (below_drew hb4))
          clear hb4
          refine wpAny_ready (rs := [21]) (by kernel_rfl) (by simp) ?_
          refine AllReady.cons rfl (fun K hK => ?_) AllReady.nil
          go_simp
          refine hK _ _ ?_
          clear hK K
          refine wpAny_ready (rs := [22]) (by kernel_rfl) (by simp) ?_
          refine AllReady.cons rfl (fun K hK => ?_) AllReady.nil
          go_simp
          refine hK _ _ ?_
          clear hK K
          refine wpAny_done (by kernel_rfl) ?_ _
          go_wp2
          go_meet
          exact ⟨w4.heap.size, rfl, Row.new _ _ _, Hown4.out.alloc _, HB4.out.alloc HB4.out.size _⟩
        · go_simp
          refine hK _ _ ?_
          clear hK K
          refine wpAny_ready (rs := [20]) (by kernel_rfl) (by simp) ?_
          refine AllReady.cons rfl (fun K hK => ?_) AllReady.nil
          go_simp
          refine (HM.out _).mono ?_
          rintro e w4 ⟨rfl, hb4⟩
          refine hK _ _ ?_
          clear hK K
          have hrow := (Row.new wr 88 #[.int .u8 0, .int .u8 0, .int .u8 0, .int .u8 0]).drew.below hb4 (by simp)
          have hb5 : Below wr.heap.size wr w4 := below_seq (((Below.refl _ wr).alloc (Nat.le_refl _) (.cells #[.int .u8 0, .int .u8 0, .int .u8 0, .int .u8 0] 88)).drew) hb4
          have hown4 := owns_below Hown.out hb5
          have hB4 := below_seq HB.out hb5
          have hwg : w.heap.size ≤ wr.heap.size := HB.out.size
          have hng : ∀ k, u3.ownBlock = some k → k ≠ wr.heap.size := fun k hk e => by have := (Hown.out.lt k hk).2; omega
          obtain ⟨gm, hgm⟩ : ∃ gm, wr.heap.size = gm := ⟨_, rfl⟩
          rw [hgm] at hrow hng hwg ⊢
          obtain ⟨⟨p0, p1, p2, p3⟩, f0, f1, f2, f3⟩ := row_four hrow
          have hrow4 := (((hrow.store 0 (U y0)).store 1 (U y1)).store 2 (U y2)).store 3 (U y3)
          have hk4 := ((((Keep.refl (fun k => k ≠ gm) w4).setCell (p := ⟨gm, 0, none⟩) (fun h => absurd rfl h) (U y0)).setCell (p := ⟨gm, 1, none⟩) (fun h => absurd rfl h) (U y1)).setCell (p := ⟨gm, 2, none⟩) (fun h => absurd rfl h) (U y2)).setCell (p := ⟨gm, 3, none⟩) (fun h => absurd rfl h) (U y3)
          have Hown5 := Lib.hid (owns_keep hown4 hk4 (fun k hk => hng k hk))
          have HB5 := Lib.hid ((((hB4.setCell (p := ⟨gm, 0, none⟩) hwg (U y0)).setCell (p := ⟨gm, 1, none⟩) hwg (U y1)).setCell (p := ⟨gm, 2, none⟩) hwg (U y2)).setCell (p := ⟨gm, 3, none⟩) hwg (U y3))
          have Hrow5 := Lib.hid hrow4
          clear hb4 hrow hb5 hown4 hB4 hwg hng hrow4 hk4
          refine wpAny_ready (rs := [22]) (by kernel_rfl) (by simp) ?_
          refine AllReady.cons rfl (fun K hK => ?_) AllReady.nil
          go_simp
          refine hK _ _ ?_
          clear hK K
          refine wpAny_done (by kernel_rfl) ?_ _
          go_wp2
          go_meet
          exact ⟨gm, rfl, Hrow5.out, Hown5.out, HB5.out⟩
      case rest =>
        obtain ⟨gm, rfl, hrow, hown, hB⟩ := hcut
        obtain ⟨⟨p0, p1, p2, p3⟩, -, -, -, -⟩ := row_four hrow
        have hnews : ∀ j u, [U y0, U y1, U y2, U y3][j]? = some u → (wc.alloc (.cells #[U y0, U y1, U y2, U y3] 5)).cell? ((⟨wc.heap.size, 0, none⟩ : Addr).add j) = some u := fun j u hu => by
          rw [Addr.add_mid, Nat.zero_add]
          exact ((Row.new wc 5 #[U y0, U y1, U y2, U y3]).cell j).trans (by simpa using hu)
        have Hnews := Lib.hid hnews
        have Hownc := Lib.hid (hown.alloc (.cells #[U y0, U y1, U y2, U y3] 5))
        have HBc := Lib.hid (hB.alloc hB.size (.cells #[U y0, U y1, U y2, U y3] 5))
        clear hnews hrow hown hB e0 e1 e2 e3 w0 w1 w2 w3 HM Hown HB
        go_wp2_with (at_builtin; go_must (refine wpList_append_own _ rfl _ _ 35 rfl w.heap.size 5 i0 _ 1 1 Try.underlying35 hi0 hz0 hz1 hz2 rfl (by decide) _ _ _ rfl Hownc.out ⟨wc.heap.size, 0, none⟩ 4 4 [U y0, U y1, U y2, U y3] rfl rfl Hnews.out (by simp [Value.oneCell']) (by unfold maxLen; omega) (by omega) HBc.out.size ?_); intro v' w5 hown' hgrow _)
        have hkp := ((Keep.below (S := fun _ => True) HBc.out).on (keep_grown hgrow) (fun k _ hl e => by have := (Hownc.out.lt k e).1; omega)).toBelow (fun _ _ => trivial)
        have Hnx : Hid (ShCol R w v' (.int .i64 ((c : Int) + 1)) w5) := Lib.hid ⟨c + 1, hlt, by go_num, by
          rw [Htk.out, List.map_append]
          exact hown', hkp⟩
        go_roundw
        case rel => exact Hnx.out
        case measure => simp [intOf]; omega
    · obtain rfl : c = 4 := by omega
      have hlt' : ¬ ((4 : Nat) : Int) < 4 := by decide
      rw [List.take_of_length_le (by omega)] at hown
      have hcv := conv_owned hRl hown
      have HB := Lib.hid hB
      clear hown hB
      go_wp2
      go_ret
      exact ⟨by rw [HR.out]; rfl, HB.out⟩

end Go.Proofs.Ytgcfaeipiiagdaa
