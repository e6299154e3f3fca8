/- For every two keys and each length the law AesKeys of layer 4 answers true and leaves its arguments as they were. No condition. -/
import Derived.Test.YtkodfifmfpdjoaaLawB
import Derived.Test.YtkodfifmfpdjoaaLawK
import Derived.Test.YtkodfifmfpdjoaaLawO
import Derived.Test.YtkodfifmfpdjoaaRefB
import Derived.Test.YtkodfifmfpdjoaaFrm
import Derived.Deep.CutRange
import Derived.Deep.RegionWith
import Derived.BigQuiet
namespace Go.Proofs.Ytkodfifmfpdjoaa.aesKeys
open Go.ChangeShapes Go.WideShapes Go.ChangeAt Go.RowKit

/-- Where the loop stands. -/
def KeyAt (L T : Nat) (w : World) (vi : Value) (wr : World) : Prop := ∃ i : Nat, L ≤ i ∧ i ≤ T ∧ vi = .int .i64 (i : Int) ∧ Below w.heap.size w wr

theorem keys_told (n : Nat) (hn : n = 4 ∨ n = 8) (k o : ByteArray) (hk : k.size = 4 * n) (ho : o.size = 4 * n) :
    ∃ s t : ByteArray, Hid (∀ w, Calls Try.prog 11 #[.string k] w fun e w' => e = .returned (.tuple #[.string s, .int .i64 0]) ∧ Below w.heap.size w w') ∧
      Hid (∀ w, Calls Try.prog 11 #[.string o] w fun e w' => e = .returned (.tuple #[.string t, .int .i64 0]) ∧ Below w.heap.size w w') ∧
      s.size = 16 * (n + 7) ∧ s.extract 0 (4 * n) = k ∧ (s.toList == t.toList) = (k.toList == o.toList) ∧
      (∀ p, 4 * n ≤ p → p < 16 * (n + 7) → ¬ p / 4 % n = 0 → ¬ (n = 8 ∧ p / 4 % 8 = 4) → (bytesOf s).getD p 0 = (bytesOf s).getD (p - 4) 0 ^^^ (bytesOf s).getD (p - 4 * n) 0) ∧
      (bytesOf s).getD (4 * n + 1) 0 = (bytesOf s).getD 1 0 ^^^ Fld.sub ((bytesOf s).getD (4 * n - 2) 0) := by
  have hkl : (bytesOf k).length = 4 * n := by rw [bytesOf_length, hk]
  have hol : (bytesOf o).length = 4 * n := by rw [bytesOf_length, ho]
  have ha := Aes.expanded_all (bytesOf_all k)
  have hao := Aes.expanded_all (bytesOf_all o)
  have hs : (strOf (Aes.expanded (bytesOf k))).size = 16 * (n + 7) := by rw [strOf_size, Aes.key_length hkl]
  have pre : ∀ x : ByteArray, (bytesOf x).length = 4 * n → (strOf (Aes.expanded (bytesOf x))).extract 0 (4 * n) = x := fun x hx => by
    have h1 : bytesOf ((strOf (Aes.expanded (bytesOf x))).extract 0 (4 * n)) = bytesOf x := by
      rw [bytesOf_extract _ _ _ (by rw [strOf_size, Aes.key_length hx]; omega), bytesOf_strOf (Aes.expanded_all (bytesOf_all x)), List.drop_zero, Nat.sub_zero, Aes.expanded_prefix hn hx]
    rw [← strOf_bytesOf (ByteArray.extract _ _ _), h1, strOf_bytesOf]
  refine ⟨_, _, Lib.hid (fun w => Expand_any n hn k hk w), Lib.hid (fun w => Expand_any n hn o ho w), hs, pre k hkl, ?_, ?_, ?_⟩
  · rw [texts_beq, texts_beq]
    apply decide_eq_decide.2
    constructor
    · intro h
      rw [← pre k hkl, ← pre o hol, h]
    · intro h; rw [h]
  · intro p h1 h2 h3 h4
    rw [bytesOf_strOf ha]
    exact Aes.expanded_plain hn hkl p h1 h2 h3 h4
  · rw [bytesOf_strOf ha]
    exact Aes.expanded_first hn hkl

set_option maxRecDepth 100000 in
set_option maxHeartbeats 4000000 in
theorem walk_false (key : ByteArray) (hkey : key.size ≤ 140737488351232) (other : ByteArray) (hother : other.size ≤ 140737488351232) (w : World) :
    Calls Try.prog 5 #[.string key, .string other, .bool false] w fun e w' => e = .returned (.bool true) ∧ Below w.heap.size w w' := by
  have hkl : (keyOf key false).size = 4 * 4 := keyOf_size key false
  have hol : (keyOf other false).size = 4 * 4 := keyOf_size other false
  have HK := Lib.hid (Key_any key false hkey)
  have HK2 := Lib.hid (Key_any other false hother)
  obtain ⟨k, hk⟩ : ∃ k, keyOf key false = k := ⟨_, rfl⟩
  obtain ⟨o, ho⟩ : ∃ o, keyOf other false = o := ⟨_, rfl⟩
  rw [hk] at HK hkl
  rw [ho] at HK2 hol
  clear hk ho hkey hother
  obtain ⟨s, t, HE, HE2, hss, hpre, hst, hplain, hfirst⟩ := keys_told 4 (by decide) k o hkl hol
  have hks : (k.size : Int) = 16 := by omega
  have hs2 : (s.size : Int) = 176 := by omega
  have hsi := fun (z : Int) (p : Nat) (hz : z = (p : Int)) (hp : p < 176) (W : World) => idx_string s z p hz (by omega) W
  have Hsi := Lib.hid hsi
  have Hplain := Lib.hid hplain
  have Hfirst := Lib.hid hfirst
  have HsA := Lib.hid (bytesOf_all s)
  obtain ⟨bb, hbb⟩ : ∃ bb, (k.toList == o.toList) = bb := ⟨_, rfl⟩
  rw [hbb] at hst
  clear hsi hplain hfirst hkl hol
  go_enter Try.func5, Try.ntmps5
  go_wp2_with fail
  refine (awake4_any _).mono ?_
  rintro e w1 ⟨rfl, hb1⟩
  have Hb1 := Lib.hid hb1
  clear hb1
  go_wp2_with fail
  refine (HK.out _).mono ?_
  rintro e w2 ⟨rfl, hb2⟩
  have Hb2 := Lib.hid (below_seq Hb1.out hb2)
  clear hb2 Hb1
  go_wp2_with fail
  refine (HE.out _).mono ?_
  rintro e w3 ⟨rfl, hb3⟩
  have Hb3 := Lib.hid (below_seq Hb2.out hb3)
  clear hb3 Hb2
  go_wp2_with fail
  refine (HK2.out _).mono ?_
  rintro e w4 ⟨rfl, hb4⟩
  have Hb4 := Lib.hid (below_seq Hb3.out hb4)
  clear hb4 Hb3
  go_wp2_with fail
  refine (HE2.out _).mono ?_
  rintro e w5 ⟨rfl, hb5⟩
  have Hb5 := Lib.hid (below_seq Hb4.out hb5)
  clear hb5 Hb4
  go_wp2_with fail
  refine (HK2.out _).mono ?_
  rintro e w6 ⟨rfl, hb6⟩
  have Hb6 := Lib.hid (below_seq Hb5.out hb6)
  clear hb6 Hb5 HK HK2 HE HE2
  have Hst : Hid (KeyAt 16 176 w (.int .i64 16) w6) := Lib.hid ⟨16, Nat.le_refl _, by decide, rfl, Hb6.out⟩
  clear Hb6
  go_wp2
  go_loopw [14] (fun vi wr => KeyAt 16 176 w vi wr) (fun vi _ => 176 - (intOf vi).toNat)
  case atStart => exact Hst.out
  case round =>
    clear Hst hpre hst hbb
    obtain ⟨i, hi1, hi2, rfl, hB⟩ := hrel
    have HB := Lib.hid hB
    clear hB
    by_cases hlt : i < 176
    · have hlt' : (i : Int) < 176 := by omega
      have Hnx : ∀ wr', Below w.heap.size w wr' → KeyAt 16 176 w (.int .i64 ((i : Int) + 1)) wr' := fun wr' h => ⟨i + 1, by omega, hlt, by go_num, h⟩
      have HNx := Lib.hid Hnx
      clear Hnx
      by_cases hw : i / 4 % 4 = 0
      · have t1 : ((i : Int) / 4 % 4 == 0) = true := by rw [beq_iff_eq]; omega
        go_wp2
        have HN := Lib.hid (HNx.out _ HB.out)
        go_roundw
        case rel => exact HN.out
        case measure => simp [intOf]; omega
      · have t1 : ((i : Int) / 4 % 4 == 0) = false := by rw [beq_eq_false_iff_ne]; omega
        have e1 := Hsi.out (i : Int) i rfl hlt
        have e2 := Hsi.out ((i : Int) - 4) (i - 4) (by omega) (by omega)
        have e3 := Hsi.out ((i : Int) - 16) (i - 16) (by omega) (by omega)
        have hp := Hplain.out i hi1 hlt hw (by omega)
        rw [hp] at e1
        have hwa : IntKind.i64.wrap ((i : Int) - 4) = (i : Int) - 4 := IntWalk.i64_in _ (by omega)
        have hwb : IntKind.i64.wrap ((i : Int) - 16) = (i : Int) - 16 := IntWalk.i64_in _ (by omega)
        have hx := u8_xor_nat _ _ (HsA.out (i - 4)) (HsA.out (i - 4 * 4))
        rw [show i - 4 * 4 = i - 16 from rfl] at e1 hx
        clear hp HsA Hfirst Hplain Hsi
        generalize (bytesOf s).getD (i - 4) 0 = x at *
        generalize (bytesOf s).getD (i - 16) 0 = y at *
        go_wp2_with fail
        go_quiet (fail)
        have HBn : Hid (Below w.heap.size w (wr.drewN nq)) := Lib.hid ⟨HB.out.os, HB.out.tape, HB.out.output, HB.out.size, HB.out.block⟩
        have HN := Lib.hid (HNx.out _ HBn.out)
        go_wp2
        go_roundw
        case rel => exact HN.out
        case measure => simp [intOf]; omega
    · obtain rfl : i = 176 := by omega
      have hlt' : ¬ ((176 : Nat) : Int) < 176 := by decide
      have e1 := Hsi.out 17 17 rfl (by decide)
      have e2 := Hsi.out 1 1 rfl (by decide)
      have e3 := Hsi.out 14 14 rfl (by decide)
      have hwA : IntKind.i64.wrap ((16 : Int) + 1) = 17 := by decide
      have hwB : IntKind.i64.wrap ((16 : Int) - 2) = 14 := by decide
      have hwC : IntKind.i64.wrap (17 : Int) = 17 := by decide
      have hwD : IntKind.i64.wrap (14 : Int) = 14 := by decide
      have hf := Hfirst.out
      rw [show 4 * 4 + 1 = 17 from rfl, show 4 * 4 - 2 = 14 from rfl] at hf
      rw [hf] at e1
      have hb1 := HsA.out 1
      have hb3 := HsA.out 14
      have HS := Lib.hid (refSub_quiet _ hb3)
      have hx := u8_xor_nat _ _ hb1 (Fld.sub_lt _ hb3)
      clear hf hb1 hb3 HsA Hfirst Hplain Hsi hlt hi1 hi2
      generalize Fld.sub ((bytesOf s).getD 14 0) = sx at *
      generalize (bytesOf s).getD 14 0 = x at *
      generalize (bytesOf s).getD 1 0 = y at *
      go_wp2_with fail
      go_quiet (refine Calls.quiet_of (HS.out _))
      have HBn : Hid (Below w.heap.size w (wr.drewN nq)) := Lib.hid ⟨HB.out.os, HB.out.tape, HB.out.output, HB.out.size, HB.out.block⟩
      go_wp2
      go_ret
      exact ⟨rfl, HBn.out⟩

set_option maxRecDepth 100000 in
set_option maxHeartbeats 4000000 in
theorem walk_true (key : ByteArray) (hkey : key.size ≤ 140737488351232) (other : ByteArray) (hother : other.size ≤ 140737488351232) (w : World) :
    Calls Try.prog 5 #[.string key, .string other, .bool true] w fun e w' => e = .returned (.bool true) ∧ Below w.heap.size w w' := by
  have hkl : (keyOf key true).size = 4 * 8 := keyOf_size key true
  have hol : (keyOf other true).size = 4 * 8 := keyOf_size other true
  have HK := Lib.hid (Key_any key true hkey)
  have HK2 := Lib.hid (Key_any other true hother)
  obtain ⟨k, hk⟩ : ∃ k, keyOf key true = k := ⟨_, rfl⟩
  obtain ⟨o, ho⟩ : ∃ o, keyOf other true = o := ⟨_, rfl⟩
  rw [hk] at HK hkl
  rw [ho] at HK2 hol
  clear hk ho hkey hother
  obtain ⟨s, t, HE, HE2, hss, hpre, hst, hplain, hfirst⟩ := keys_told 8 (by decide) k o hkl hol
  have hks : (k.size : Int) = 32 := by omega
  have hs2 : (s.size : Int) = 240 := by omega
  have hsi := fun (z : Int) (p : Nat) (hz : z = (p : Int)) (hp : p < 240) (W : World) => idx_string s z p hz (by omega) W
  have Hsi := Lib.hid hsi
  have Hplain := Lib.hid hplain
  have Hfirst := Lib.hid hfirst
  have HsA := Lib.hid (bytesOf_all s)
  obtain ⟨bb, hbb⟩ : ∃ bb, (k.toList == o.toList) = bb := ⟨_, rfl⟩
  rw [hbb] at hst
  clear hsi hplain hfirst hkl hol
  go_enter Try.func5, Try.ntmps5
  go_wp2_with fail
  refine (awake4_any _).mono ?_
  rintro e w1 ⟨rfl, hb1⟩
  have Hb1 := Lib.hid hb1
  clear hb1
  go_wp2_with fail
  refine (HK.out _).mono ?_
  rintro e w2 ⟨rfl, hb2⟩
  have Hb2 := Lib.hid (below_seq Hb1.out hb2)
  clear hb2 Hb1
  go_wp2_with fail
  refine (HE.out _).mono ?_
  rintro e w3 ⟨rfl, hb3⟩
  have Hb3 := Lib.hid (below_seq Hb2.out hb3)
  clear hb3 Hb2
  go_wp2_with fail
  refine (HK2.out _).mono ?_
  rintro e w4 ⟨rfl, hb4⟩
  have Hb4 := Lib.hid (below_seq Hb3.out hb4)
  clear hb4 Hb3
  go_wp2_with fail
  refine (HE2.out _).mono ?_
  rintro e w5 ⟨rfl, hb5⟩
  have Hb5 := Lib.hid (below_seq Hb4.out hb5)
  clear hb5 Hb4
  go_wp2_with fail
  refine (HK2.out _).mono ?_
  rintro e w6 ⟨rfl, hb6⟩
  have Hb6 := Lib.hid (below_seq Hb5.out hb6)
  clear hb6 Hb5 HK HK2 HE HE2
  have Hst : Hid (KeyAt 32 240 w (.int .i64 32) w6) := Lib.hid ⟨32, Nat.le_refl _, by decide, rfl, Hb6.out⟩
  clear Hb6
  go_wp2
  go_loopw [14] (fun vi wr => KeyAt 32 240 w vi wr) (fun vi _ => 240 - (intOf vi).toNat)
  case atStart => exact Hst.out
  case round =>
    clear Hst hpre hst hbb
    obtain ⟨i, hi1, hi2, rfl, hB⟩ := hrel
    have HB := Lib.hid hB
    clear hB
    by_cases hlt : i < 240
    · have hlt' : (i : Int) < 240 := by omega
      have Hnx : ∀ wr', Below w.heap.size w wr' → KeyAt 32 240 w (.int .i64 ((i : Int) + 1)) wr' := fun wr' h => ⟨i + 1, by omega, hlt, by go_num, h⟩
      have HNx := Lib.hid Hnx
      clear Hnx
      by_cases hw : i / 4 % 8 = 0
      · have t1 : ((i : Int) / 4 % 8 == 0) = true := by rw [beq_iff_eq]; omega
        go_wp2
        have HN := Lib.hid (HNx.out _ HB.out)
        go_roundw
        case rel => exact HN.out
        case measure => simp [intOf]; omega
      · have t1 : ((i : Int) / 4 % 8 == 0) = false := by rw [beq_eq_false_iff_ne]; omega
        by_cases hw2 : i / 4 % 8 = 4
        · have t2 : ((i : Int) / 4 % 8 == 4) = true := by rw [beq_iff_eq]; omega
          go_wp2
          have HN := Lib.hid (HNx.out _ HB.out)
          go_roundw
          case rel => exact HN.out
          case measure => simp [intOf]; omega
        · have t2 : ((i : Int) / 4 % 8 == 4) = false := by rw [beq_eq_false_iff_ne]; omega
          have e1 := Hsi.out (i : Int) i rfl hlt
          have e2 := Hsi.out ((i : Int) - 4) (i - 4) (by omega) (by omega)
          have e3 := Hsi.out ((i : Int) - 32) (i - 32) (by omega) (by omega)
          have hp := Hplain.out i hi1 hlt hw (fun h => hw2 h.2)
          rw [hp] at e1
          have hwa : IntKind.i64.wrap ((i : Int) - 4) = (i : Int) - 4 := IntWalk.i64_in _ (by omega)
          have hwb : IntKind.i64.wrap ((i : Int) - 32) = (i : Int) - 32 := IntWalk.i64_in _ (by omega)
          have hx := u8_xor_nat _ _ (HsA.out (i - 4)) (HsA.out (i - 4 * 8))
          rw [show i - 4 * 8 = i - 32 from rfl] at e1 hx
          clear hp HsA Hfirst Hplain Hsi
          generalize (bytesOf s).getD (i - 4) 0 = x at *
          generalize (bytesOf s).getD (i - 32) 0 = y at *
          go_wp2_with fail
          go_quiet (fail)
          have HBn : Hid (Below w.heap.size w (wr.drewN nq)) := Lib.hid ⟨HB.out.os, HB.out.tape, HB.out.output, HB.out.size, HB.out.block⟩
          have HN := Lib.hid (HNx.out _ HBn.out)
          go_wp2
          go_roundw
          case rel => exact HN.out
          case measure => simp [intOf]; omega
    · obtain rfl : i = 240 := by omega
      have hlt' : ¬ ((240 : Nat) : Int) < 240 := by decide
      have e1 := Hsi.out 33 33 rfl (by decide)
      have e2 := Hsi.out 1 1 rfl (by decide)
      have e3 := Hsi.out 30 30 rfl (by decide)
      have hwA : IntKind.i64.wrap ((32 : Int) + 1) = 33 := by decide
      have hwB : IntKind.i64.wrap ((32 : Int) - 2) = 30 := by decide
      have hwC : IntKind.i64.wrap (33 : Int) = 33 := by decide
      have hwD : IntKind.i64.wrap (30 : Int) = 30 := by decide
      have hf := Hfirst.out
      rw [show 4 * 8 + 1 = 33 from rfl, show 4 * 8 - 2 = 30 from rfl] at hf
      rw [hf] at e1
      have hb1 := HsA.out 1
      have hb3 := HsA.out 30
      have HS := Lib.hid (refSub_quiet _ hb3)
      have hx := u8_xor_nat _ _ hb1 (Fld.sub_lt _ hb3)
      clear hf hb1 hb3 HsA Hfirst Hplain Hsi hlt hi1 hi2
      generalize Fld.sub ((bytesOf s).getD 30 0) = sx at *
      generalize (bytesOf s).getD 30 0 = x at *
      generalize (bytesOf s).getD 1 0 = y at *
      go_wp2_with fail
      go_quiet (refine Calls.quiet_of (HS.out _))
      have HBn : Hid (Below w.heap.size w (wr.drewN nq)) := Lib.hid ⟨HB.out.os, HB.out.tape, HB.out.output, HB.out.size, HB.out.block⟩
      go_wp2
      go_ret
      exact ⟨rfl, HBn.out⟩

theorem walk (key : ByteArray) (hkey : key.size ≤ 140737488351232) (other : ByteArray) (hother : other.size ≤ 140737488351232) (long : Bool) (w : World) :
    Calls Try.prog 5 #[.string key, .string other, .bool long] w fun e w' => e = .returned (.bool true) ∧ Below w.heap.size w w' := by
  cases long
  · exact walk_false key hkey other hother w
  · exact walk_true key hkey other hother w

theorem own : ownKnob Try.prog.godebug = none := by kernel_rfl
theorem lay : laidOutB Try.prog = true := by kernel_rfl

set_option maxRecDepth 100000 in
theorem lifted (os : Os) (started : os.Started) (H : Type) (enc : TypeId × Value → H) :
    ReturnsInHanded {} Try.checked os 5 .any (Rows.aesKeysSpec.pre6 enc Try.prog Try.f5 Rows.aesKeysRow.domain false) (Rows.aesKeysSpec.post enc Try.prog Try.f5 false true false false) := by
  refine returnsInHanded_of_change_sized (C := Try.checked) own started (by kernel_rfl) Try.func5
    (ChangeSpec.witness6 (enc := enc) (C := Try.checked) false ⟨#[], #[.string ⟨#[]⟩, .string ⟨#[]⟩, .bool false], []⟩ 8 (by kernel_rfl) (by kernel_rfl) (by kernel_rfl) (by kernel_rfl)) ?_
  intro W base args ds gs before hval0 hW hcnd hsz0 _
  have hval : ∀ (j : Nat) t v, Try.f5.params[j]? = some t → args[j]? = some v → Value.okWide Try.prog W .any base t v := hval0
  have hsz : (DataW.weightsEach Try.prog (Try.f5.params.toList ++ Rows.aesKeysSpec.plain.varTypes Try.prog) (ds ++ gs)).all (· ≤ reachBytes) = true := hsz0
  have hW' := hW
  obtain ⟨p, q, hA0, hV, rfl, hfz, hnd⟩ := hW
  have hA : DataW.TrodAll enc Try.prog W 0 (fun _ => true) true Try.f5.params.toList args.toList ds p := hA0
  rw [Try.params5] at hA hval hsz
  obtain ⟨v0, vs0, d0, ds0, p0, q0, hargs, rfl, rfl, h0, r0⟩ := trodAll_cons hA
  obtain ⟨v1, vs1, d1, ds1, p1, q1, rfl, rfl, rfl, h1, r1⟩ := trodAll_cons r0
  obtain ⟨v2, vs2, d2, ds2, p2, q2, rfl, rfl, rfl, h2, r2⟩ := trodAll_cons r1
  obtain ⟨rfl, rfl, rfl⟩ := trodAll_nil r2
  obtain rfl : args = #[v0, v1, v2] := by cases args; simp_all
  obtain ⟨rfl, rfl⟩ := trodVars_none hV
  obtain ⟨a0, rfl, rfl, rfl, w0⟩ := ChangeMaps.open_string Try.underlying9 (hval 0 9 v0 rfl rfl) h0
  have z0 : a0.size ≤ 140737488351232 := sized_string hsz (j := 0) rfl rfl
  obtain ⟨a1, rfl, rfl, rfl, w1⟩ := ChangeMaps.open_string Try.underlying9 (hval 1 9 v1 rfl rfl) h1
  have z1 : a1.size ≤ 140737488351232 := sized_string hsz (j := 1) rfl rfl
  obtain ⟨a2, rfl, rfl, rfl⟩ := open_bool Try.underlying4 (hval 2 4 v2 rfl rfl) h2
  refine (walk a0 z0 a1 z1 a2 W).mono fun e W' ⟨he, hg⟩ => ?_
  subst he
  have hts : ∀ t ∈ Try.f5.params.toList, Try.prog.readableRec t = true ∧ t < Try.prog.types.size := by
    rw [Try.params5]
    intro t ht
    simp only [List.mem_cons, List.not_mem_nil, or_false] at ht
    rcases ht with rfl | rfl | rfl <;> exact ⟨by kernel_rfl, of_decide_eq_true (by kernel_rfl)⟩
  exact ⟨_, rfl, post_true lay hts (by kernel_rfl) Try.underlying4 rfl rfl hW' hg⟩

theorem proved : Rows.AesKeysSaid :=
  OpenClaim.holds_of_wide 5 Try.f5 rfl rfl rfl rfl rfl rfl rfl ⟨rfl, rfl, rfl, rfl, rfl⟩ rfl rfl rfl rfl rfl (by kernel_rfl) Try.func5 (by kernel_rfl)
    (of_decide_eq_true (by kernel_rfl)) (by unfold Func.isWrapper; first | (rw [if_pos (by decide +kernel)]; kernel_rfl) | (rw [if_neg (by decide +kernel)]; exact ⟨rfl, rfl⟩))
    (fun os started H enc _ => lifted os started H enc)
#print axioms proved

end Go.Proofs.Ytkodfifmfpdjoaa.aesKeys
