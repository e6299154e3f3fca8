/- For every key, block, length and list of steps the law AesLines of layer 4 answers true and leaves its arguments as they were. No condition. -/
import Derived.Test.YtkodfifmfpdjoaaLawB
import Derived.Test.YtkodfifmfpdjoaaLawP
import Derived.Test.YtkodfifmfpdjoaaBools
import Derived.Deep.CutRange
namespace Go.Proofs.Ytkodfifmfpdjoaa.aesLines
open Go.ChangeShapes Go.WideShapes Go.ChangeAt Go.RowKit

/-- Where the first loop stands. -/
def UpAt (K B : List Nat) (w : World) (now up vi : Value) (wr : World) : Prop :=
  ∃ (i : Nat) (u : Int), i ≤ 8 ∧ vi = .int .i64 (i : Int) ∧ -(i : Int) ≤ u ∧ u ≤ i ∧ up = .int .i64 u ∧ now = .string (strOf (Aes.pw K B u)) ∧ Below w.heap.size w wr
/-- Where the second one stands. -/
def DownAt (K B : List Nat) (w : World) (now up : Value) (wr : World) : Prop :=
  ∃ u : Int, -8 ≤ u ∧ u ≤ 8 ∧ up = .int .i64 u ∧ now = .string (strOf (Aes.pw K B u)) ∧ Below w.heap.size w wr

theorem enc_step (n : Nat) (hn : n = 4 ∨ n = 8) (k : ByteArray) (hk : k.size = 4 * n) (B : List Nat) (hbl : B.length = 16) (hb : Bs.All B) (u : Int) (w : World) :
    Calls Try.prog 13 #[.string k, .string (strOf (Aes.pw (bytesOf k) B u))] w fun e w' => e = .returned (.tuple #[.string (strOf (Aes.pw (bytesOf k) B (u + 1))), .int .i64 0]) ∧ Below w.heap.size w w' := by
  have hkl : (bytesOf k).length = 4 * n := by rw [bytesOf_length, hk]
  obtain ⟨h1, h2⟩ := Aes.pw_all hkl (bytesOf_all k) hbl hb u
  refine (Encrypt_any n hn k _ hk (by rw [strOf_size, h1]) w).mono fun e w' h => ?_
  rw [bytesOf_strOf h2, Aes.enc_pw hkl (bytesOf_all k) hbl hb u] at h
  exact h
theorem dec_step (n : Nat) (hn : n = 4 ∨ n = 8) (k : ByteArray) (hk : k.size = 4 * n) (B : List Nat) (hbl : B.length = 16) (hb : Bs.All B) (u : Int) (w : World) :
    Calls Try.prog 15 #[.string k, .string (strOf (Aes.pw (bytesOf k) B u))] w fun e w' => e = .returned (.tuple #[.string (strOf (Aes.pw (bytesOf k) B (u - 1))), .int .i64 0]) ∧ Below w.heap.size w w' := by
  have hkl : (bytesOf k).length = 4 * n := by rw [bytesOf_length, hk]
  obtain ⟨h1, h2⟩ := Aes.pw_all hkl (bytesOf_all k) hbl hb u
  refine (Decrypt_any n hn k _ hk (by rw [strOf_size, h1]) w).mono fun e w' h => ?_
  rw [bytesOf_strOf h2, Aes.dec_pw hkl (bytesOf_all k) hbl hb u] at h
  exact h

/-- What is asked of the steps. -/
def Steps (v : Value) (len : Nat) (w : World) : Prop :=
  ∃ (a : Option Addr) (cap : Nat) (B : Nat → Bool), v = .slice a len cap ∧ len ≤ cap ∧ cap ≤ maxLen ∧ ∀ i, i < len → ∃ a', a = some a' ∧ w.cell? (a'.add i) = some (.bool (B i))
theorem steps_of {v : Value} {w : World} (h : BoolsIn v w) : ∃ len, Steps v len w := by
  rcases h with rfl | ⟨a, len, cap, B, rfl, h1, h2, h3⟩
  · exact ⟨0, none, 0, fun _ => false, rfl, Nat.le_refl _, by decide, fun i hi => absurd hi (Nat.not_lt_zero i)⟩
  · exact ⟨len, some a, cap, B, rfl, h1, h2, fun i hi => ⟨a, rfl, h3 i (by omega)⟩⟩

set_option maxRecDepth 100000 in
set_option maxHeartbeats 4000000 in
theorem walk (key : ByteArray) (hkey : key.size ≤ 140737488351232) (block : ByteArray) (hblock : block.size ≤ 140737488351232) (long : Bool) (v : Value) (w : World) (hv : BoolsIn v w) :
    Calls Try.prog 6 #[.string key, .string block, .bool long, v] w fun e w' => e = .returned (.bool true) ∧ Below w.heap.size w w' := by
  obtain ⟨len, a, cap, B, rfl, hlc, hcm, hcell⟩ := steps_of hv
  clear hv
  have Hcell := Lib.hid hcell
  clear hcell
  have hkl := keyOf_size key long
  obtain ⟨n, hn, hns⟩ : ∃ n, (n = 4 ∨ n = 8) ∧ (keyOf key long).size = 4 * n := by
    cases long
    · exact ⟨4, .inl rfl, hkl⟩
    · exact ⟨8, .inr rfl, hkl⟩
  have hbl : (bytesOf (chunkOf block)).length = 16 := by rw [bytesOf_length, chunkOf_size]
  have hba := bytesOf_all (chunkOf block)
  have HE := Lib.hid (enc_step n hn (keyOf key long) hns (bytesOf (chunkOf block)) hbl hba)
  have HD := Lib.hid (dec_step n hn (keyOf key long) hns (bytesOf (chunkOf block)) hbl hba)
  have HK := Lib.hid (Key_any key long hkey)
  have HC := Lib.hid (Chunk_any block hblock)
  have h0 : strOf (Aes.pw (bytesOf (keyOf key long)) (bytesOf (chunkOf block)) 0) = chunkOf block := by rw [Aes.pw_zero, strOf_bytesOf]
  obtain ⟨k, hk⟩ : ∃ k, keyOf key long = k := ⟨_, rfl⟩
  obtain ⟨c, hc⟩ : ∃ c, chunkOf block = c := ⟨_, rfl⟩
  rw [hk, hc] at HE HD h0
  rw [hk] at HK
  rw [hc] at HC
  have H0 := Lib.hid h0
  clear hkl hns hbl hba hk hc h0 hkey hblock hn
  have hcm63 : (len : Int) ≤ 9223372036854775807 := by unfold maxLen at hcm; omega
  clear hlc hcm
  go_enter Try.func6, Try.ntmps6
  go_wp2_with fail
  refine (awake4_any _).mono ?_
  rintro e w1 ⟨rfl, hb1⟩
  have Hb1 := Lib.hid hb1
  clear hb1
  go_wp2_with fail
  refine (HK.out _).mono ?_
  rintro e w2 ⟨rfl, hb2⟩
  have Hb2 := Lib.hid (below_seq Hb1.out hb2)
  clear hb2 Hb1
  go_wp2_with fail
  refine (HC.out _).mono ?_
  rintro e w3 ⟨rfl, hb3⟩
  have Hb3 := Lib.hid (below_seq Hb2.out hb3)
  clear hb3 Hb2 HK HC
  have Hst : Hid (UpAt (bytesOf k) (bytesOf c) w (.string c) (.int .i64 0) (.int .i64 0) w3) := Lib.hid ⟨0, 0, by decide, rfl, by decide, by decide, rfl, by rw [H0.out], Hb3.out⟩
  clear Hb3
  go_wp2
  go_loopw [12, 13, 14] (fun vn vu vi wr => UpAt (bytesOf k) (bytesOf c) w vn vu vi wr) (fun _ _ vi _ => 8 - (intOf vi).toNat)
  case atStart => exact Hst.out
  case round =>
    clear Hst
    obtain ⟨i, u, hi, rfl, hu1, hu2, rfl, rfl, hB⟩ := hrel
    have HB := Lib.hid hB
    clear hB
    by_cases h1 : (i : Int) < (len : Int)
    · by_cases h2 : (i : Int) < 8
      · go_wp2_with fail
        refine (HE.out u _).mono ?_
        rintro e w4 ⟨rfl, hb4⟩
        have HB4 := Lib.hid (below_seq HB.out hb4)
        clear hb4
        obtain ⟨a', rfl, hc'⟩ := Hcell.out i (by omega)
        have hcell := cell_below HB4.out hc'
        clear hc'
        generalize B i = bi at hcell
        cases bi
        · go_wp2_with fail
          refine (HD.out u _).mono ?_
          rintro e w5 ⟨rfl, hb5⟩
          have HB5 := Lib.hid (below_seq HB4.out hb5)
          clear hb5 hcell
          have Hnx : Hid (UpAt (bytesOf k) (bytesOf c) w (.string (strOf (Aes.pw (bytesOf k) (bytesOf c) (u - 1)))) (.int .i64 (u + 1 - 2)) (.int .i64 ((i : Int) + 1)) w5) :=
            Lib.hid ⟨i + 1, u - 1, by omega, by go_num, by omega, by omega, by rw [show u + 1 - 2 = u - 1 by omega], rfl, HB5.out⟩
          go_wp2
          go_roundw
          case rel => exact Hnx.out
          case measure => simp [intOf]; omega
        · have Hnx : Hid (UpAt (bytesOf k) (bytesOf c) w (.string (strOf (Aes.pw (bytesOf k) (bytesOf c) (u + 1)))) (.int .i64 (u + 1)) (.int .i64 ((i : Int) + 1)) w4) :=
            Lib.hid ⟨i + 1, u + 1, by omega, by go_num, by omega, by omega, rfl, rfl, HB4.out⟩
          go_wp2
          go_roundw
          case rel => exact Hnx.out
          case measure => simp [intOf]; omega
      · skip
        have Hd : Hid (DownAt (bytesOf k) (bytesOf c) w (.string (strOf (Aes.pw (bytesOf k) (bytesOf c) u))) (.int .i64 u) wr) := Lib.hid ⟨u, by omega, by omega, rfl, rfl, HB.out⟩
        clear HB
        go_wp2
        go_loopw [12, 13] (fun vn vu wr => DownAt (bytesOf k) (bytesOf c) w vn vu wr) (fun _ vu _ => (intOf vu).natAbs)
        case atStart => exact Hd.out
        case round =>
          clear Hd
          obtain ⟨u2, hu3, hu4, rfl, rfl, hB2⟩ := hrel
          have HB2 := Lib.hid hB2
          clear hB2
          by_cases hz : u2 = 0
          · subst hz
            have e0 := H0.out
            go_wp2
            go_ret
            exact ⟨rfl, HB2.out⟩
          · have hne : (u2 != 0) = true := by rw [bne_iff_ne]; exact hz
            go_wp2_with fail
            refine (HD.out u2 _).mono ?_
            rintro e w4 ⟨rfl, hb4⟩
            have HB4 := Lib.hid (below_seq HB2.out hb4)
            clear hb4
            by_cases hneg : u2 < 0
            · go_wp2_with fail
              refine (HE.out u2 _).mono ?_
              rintro e w5 ⟨rfl, hb5⟩
              have HB5 := Lib.hid (below_seq HB4.out hb5)
              clear hb5
              have Hnx : Hid (DownAt (bytesOf k) (bytesOf c) w (.string (strOf (Aes.pw (bytesOf k) (bytesOf c) (u2 + 1)))) (.int .i64 (u2 + 1)) w5) := Lib.hid ⟨u2 + 1, by omega, by omega, rfl, rfl, HB5.out⟩
              go_wp2
              go_roundw
              case rel => exact Hnx.out
              case measure => simp [intOf]; omega
            · have Hnx : Hid (DownAt (bytesOf k) (bytesOf c) w (.string (strOf (Aes.pw (bytesOf k) (bytesOf c) (u2 - 1)))) (.int .i64 (u2 + -1)) w4) := Lib.hid ⟨u2 - 1, by omega, by omega, by rw [show u2 + -1 = u2 - 1 by omega], rfl, HB4.out⟩
              go_wp2
              go_roundw
              case rel => exact Hnx.out
              case measure => simp [intOf]; omega
    · skip
      have Hd : Hid (DownAt (bytesOf k) (bytesOf c) w (.string (strOf (Aes.pw (bytesOf k) (bytesOf c) u))) (.int .i64 u) wr) := Lib.hid ⟨u, by omega, by omega, rfl, rfl, HB.out⟩
      clear HB
      go_wp2
      go_loopw [12, 13] (fun vn vu wr => DownAt (bytesOf k) (bytesOf c) w vn vu wr) (fun _ vu _ => (intOf vu).natAbs)
      case atStart => exact Hd.out
      case round =>
        clear Hd
        obtain ⟨u2, hu3, hu4, rfl, rfl, hB2⟩ := hrel
        have HB2 := Lib.hid hB2
        clear hB2
        by_cases hz : u2 = 0
        · subst hz
          have e0 := H0.out
          go_wp2
          go_ret
          exact ⟨rfl, HB2.out⟩
        · have hne : (u2 != 0) = true := by rw [bne_iff_ne]; exact hz
          go_wp2_with fail
          refine (HD.out u2 _).mono ?_
          rintro e w4 ⟨rfl, hb4⟩
          have HB4 := Lib.hid (below_seq HB2.out hb4)
          clear hb4
          by_cases hneg : u2 < 0
          · go_wp2_with fail
            refine (HE.out u2 _).mono ?_
            rintro e w5 ⟨rfl, hb5⟩
            have HB5 := Lib.hid (below_seq HB4.out hb5)
            clear hb5
            have Hnx : Hid (DownAt (bytesOf k) (bytesOf c) w (.string (strOf (Aes.pw (bytesOf k) (bytesOf c) (u2 + 1)))) (.int .i64 (u2 + 1)) w5) := Lib.hid ⟨u2 + 1, by omega, by omega, rfl, rfl, HB5.out⟩
            go_wp2
            go_roundw
            case rel => exact Hnx.out
            case measure => simp [intOf]; omega
          · have Hnx : Hid (DownAt (bytesOf k) (bytesOf c) w (.string (strOf (Aes.pw (bytesOf k) (bytesOf c) (u2 - 1)))) (.int .i64 (u2 + -1)) w4) := Lib.hid ⟨u2 - 1, by omega, by omega, by rw [show u2 + -1 = u2 - 1 by omega], rfl, HB4.out⟩
            go_wp2
            go_roundw
            case rel => exact Hnx.out
            case measure => simp [intOf]; omega

theorem own : ownKnob Try.prog.godebug = none := by kernel_rfl
theorem lay : laidOutB Try.prog = true := by kernel_rfl

set_option maxRecDepth 100000 in
theorem lifted (os : Os) (started : os.Started) (H : Type) (enc : TypeId × Value → H) :
    ReturnsInHanded {} Try.checked os 6 .any (Rows.aesLinesSpec.pre6 enc Try.prog Try.f6 Rows.aesLinesRow.domain false) (Rows.aesLinesSpec.post enc Try.prog Try.f6 false true false false) := by
  refine returnsInHanded_of_change_sized (C := Try.checked) own started (by kernel_rfl) Try.func6
    (ChangeSpec.witness6 (enc := enc) (C := Try.checked) false ⟨#[], #[.string ⟨#[]⟩, .string ⟨#[]⟩, .bool false, .slice none 0 0], []⟩ 8 (by kernel_rfl) (by kernel_rfl) (by kernel_rfl) (by kernel_rfl)) ?_
  intro W base args ds gs before hval0 hW hcnd hsz0 _
  have hval : ∀ (j : Nat) t v, Try.f6.params[j]? = some t → args[j]? = some v → Value.okWide Try.prog W .any base t v := hval0
  have hsz : (DataW.weightsEach Try.prog (Try.f6.params.toList ++ Rows.aesLinesSpec.plain.varTypes Try.prog) (ds ++ gs)).all (· ≤ reachBytes) = true := hsz0
  have hW' := hW
  obtain ⟨p, q, hA0, hV, rfl, hfz, hnd⟩ := hW
  have hA : DataW.TrodAll enc Try.prog W 0 (fun _ => true) true Try.f6.params.toList args.toList ds p := hA0
  rw [Try.params6] at hA hval hsz
  obtain ⟨v0, vs0, d0, ds0, p0, q0, hargs, rfl, rfl, h0, r0⟩ := trodAll_cons hA
  obtain ⟨v1, vs1, d1, ds1, p1, q1, rfl, rfl, rfl, h1, r1⟩ := trodAll_cons r0
  obtain ⟨v2, vs2, d2, ds2, p2, q2, rfl, rfl, rfl, h2, r2⟩ := trodAll_cons r1
  obtain ⟨v3, vs3, d3, ds3, p3, q3, rfl, rfl, rfl, h3, r3⟩ := trodAll_cons r2
  obtain ⟨rfl, rfl, rfl⟩ := trodAll_nil r3
  obtain rfl : args = #[v0, v1, v2, v3] := by cases args; simp_all
  obtain ⟨rfl, rfl⟩ := trodVars_none hV
  obtain ⟨a0, rfl, rfl, rfl, w0⟩ := ChangeMaps.open_string Try.underlying9 (hval 0 9 v0 rfl rfl) h0
  have z0 : a0.size ≤ 140737488351232 := sized_string hsz (j := 0) rfl rfl
  obtain ⟨a1, rfl, rfl, rfl, w1⟩ := ChangeMaps.open_string Try.underlying9 (hval 1 9 v1 rfl rfl) h1
  have z1 : a1.size ≤ 140737488351232 := sized_string hsz (j := 1) rfl rfl
  obtain ⟨a2, rfl, rfl, rfl⟩ := open_bool Try.underlying4 (hval 2 4 v2 rfl rfl) h2
  have k3 := bools_open Try.underlying36 Try.underlying4 (by kernel_rfl) (hval 3 36 v3 rfl rfl) h3
  refine (walk a0 z0 a1 z1 a2 v3 W k3).mono fun e W' ⟨he, hg⟩ => ?_
  subst he
  have hts : ∀ t ∈ Try.f6.params.toList, Try.prog.readableRec t = true ∧ t < Try.prog.types.size := by
    rw [Try.params6]
    intro t ht
    simp only [List.mem_cons, List.not_mem_nil, or_false] at ht
    rcases ht with rfl | rfl | rfl | rfl <;> exact ⟨by kernel_rfl, of_decide_eq_true (by kernel_rfl)⟩
  exact ⟨_, rfl, post_true lay hts (by kernel_rfl) Try.underlying4 rfl rfl hW' hg⟩

theorem proved : Rows.AesLinesSaid :=
  OpenClaim.holds_of_wide 6 Try.f6 rfl rfl rfl rfl rfl rfl rfl ⟨rfl, rfl, rfl, rfl, rfl⟩ rfl rfl rfl rfl rfl (by kernel_rfl) Try.func6 (by kernel_rfl)
    (of_decide_eq_true (by kernel_rfl)) (by unfold Func.isWrapper; first | (rw [if_pos (by decide +kernel)]; kernel_rfl) | (rw [if_neg (by decide +kernel)]; exact ⟨rfl, rfl⟩))
    (fun os started H enc _ => lifted os started H enc)
#print axioms proved

end Go.Proofs.Ytkodfifmfpdjoaa.aesLines
