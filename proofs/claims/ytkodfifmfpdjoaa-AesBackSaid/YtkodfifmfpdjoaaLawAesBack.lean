/- For every key, block, length, place and byte the law AesBack of layer 4 answers true and leaves its arguments as they were. No condition. -/
import Derived.Test.YtkodfifmfpdjoaaLawB
import Derived.Test.YtkodfifmfpdjoaaLawO
import Derived.Test.YtkodfifmfpdjoaaFrm
import Derived.Deep.CutRange
import Derived.Deep.RegionWith
namespace Go.Proofs.Ytkodfifmfpdjoaa.aesBack
open Go.ChangeShapes Go.WideShapes Go.ChangeAt Go.RowKit

theorem enc_unlike {n : Nat} (k b c : ByteArray) (hk : k.size = 4 * n) (hb : b.size = 16) (hc : c.size = 16) (h : c ≠ b) :
    ((strOf (Aes.enc (bytesOf k) (bytesOf c))).toList == (strOf (Aes.enc (bytesOf k) (bytesOf b))).toList) = false := by
  have hkl : (bytesOf k).length = 4 * n := by rw [bytesOf_length, hk]
  rw [texts_beq]
  apply decide_eq_false
  intro he
  apply h
  have h1 := strOf_inj (Aes.enc_length hkl (bytesOf_all k) (bytesOf_all c)).2 (Aes.enc_length hkl (bytesOf_all k) (bytesOf_all b)).2 he
  have h2 := congrArg (Aes.dec (bytesOf k)) h1
  rw [Aes.dec_enc hkl (bytesOf_all k) (by rw [bytesOf_length, hc]) (bytesOf_all c), Aes.dec_enc hkl (bytesOf_all k) (by rw [bytesOf_length, hb]) (bytesOf_all b)] at h2
  rw [← strOf_bytesOf c, ← strOf_bytesOf b, h2]

theorem enc_text (n : Nat) (hn : n = 4 ∨ n = 8) (k b : ByteArray) (hk : k.size = 4 * n) (hb : b.size = 16) :
    (∀ w, Calls Try.prog 13 #[.string k, .string b] w fun e w' => e = .returned (.tuple #[.string (strOf (Aes.enc (bytesOf k) (bytesOf b))), .int .i64 0]) ∧ Below w.heap.size w w') ∧
    (∀ w, Calls Try.prog 15 #[.string k, .string (strOf (Aes.enc (bytesOf k) (bytesOf b)))] w fun e w' => e = .returned (.tuple #[.string b, .int .i64 0]) ∧ Below w.heap.size w w') ∧
    (strOf (Aes.enc (bytesOf k) (bytesOf b))).size = 16 ∧
    ∃ z : ByteArray, (∀ w, Calls Try.prog 15 #[.string k, .string b] w fun e w' => e = .returned (.tuple #[.string z, .int .i64 0]) ∧ Below w.heap.size w w') ∧
      (∀ w, Calls Try.prog 13 #[.string k, .string z] w fun e w' => e = .returned (.tuple #[.string b, .int .i64 0]) ∧ Below w.heap.size w w') := by
  have hkl : (bytesOf k).length = 4 * n := by rw [bytesOf_length, hk]
  have hbl : (bytesOf b).length = 16 := by rw [bytesOf_length, hb]
  have he := Aes.enc_length hkl (bytesOf_all k) (bytesOf_all b)
  have hd := Aes.dec_length hkl (bytesOf_all k) hbl (bytesOf_all b)
  refine ⟨fun w => Encrypt_any n hn k b hk hb w, fun w => ?_, by rw [strOf_size, he.1], strOf (Aes.dec (bytesOf k) (bytesOf b)), fun w => Decrypt_any n hn k b hk hb w, fun w => ?_⟩
  · refine (Decrypt_any n hn k _ hk (by rw [strOf_size, he.1]) w).mono fun e w' h => ?_
    rw [bytesOf_strOf he.2, Aes.dec_enc hkl (bytesOf_all k) hbl (bytesOf_all b), strOf_bytesOf] at h
    exact h
  · refine (Encrypt_any n hn k _ hk (by rw [strOf_size, hd.1]) w).mono fun e w' h => ?_
    rw [bytesOf_strOf hd.2, Aes.enc_dec hkl (bytesOf_all k) hbl (bytesOf_all b), strOf_bytesOf] at h
    exact h

set_option maxRecDepth 100000 in
set_option maxHeartbeats 4000000 in
theorem walk (key : ByteArray) (hkey : key.size ≤ 140737488351232) (block : ByteArray) (hblock : block.size ≤ 140737488351232) (long : Bool) (at_ : Int) (hat : -9223372036854775808 ≤ at_ ∧ at_ ≤ 9223372036854775807) (by_ : Int) (hby : -9223372036854775808 ≤ by_ ∧ by_ ≤ 9223372036854775807) (w : World) :
    Calls Try.prog 4 #[.string key, .string block, .bool long, .int .i64 at_, .int .i64 by_] w fun e w' => e = .returned (.bool true) ∧ Below w.heap.size w w' := by
  have hkl := keyOf_size key long
  obtain ⟨n, hn, hns⟩ : ∃ n, (n = 4 ∨ n = 8) ∧ (keyOf key long).size = 4 * n := by
    cases long
    · exact ⟨4, .inl rfl, hkl⟩
    · exact ⟨8, .inr rfl, hkl⟩
  have hcs := chunkOf_size block
  have HK := Lib.hid (Key_any key long hkey)
  have HC := Lib.hid (Chunk_any block hblock)
  obtain ⟨k, hk⟩ : ∃ k, keyOf key long = k := ⟨_, rfl⟩
  obtain ⟨b, hb⟩ : ∃ b, chunkOf block = b := ⟨_, rfl⟩
  rw [hk] at HK hns
  rw [hb] at HC hcs
  clear hkl hk hb hkey hblock
  obtain ⟨i, hi, hil⟩ : ∃ i : Nat, pickOf at_ 16 = (i : Int) ∧ i < 16 := by
    have h := pickOf_range (c := at_) (n := 16) (by decide)
    exact ⟨(pickOf at_ 16).toNat, by omega, by omega⟩
  obtain ⟨p, hp, hpl⟩ : ∃ p : Nat, pickOf by_ 255 = (p : Int) ∧ p < 255 := by
    have h := pickOf_range (c := by_) (n := 255) (by decide)
    exact ⟨(pickOf by_ 255).toNat, by omega, by omega⟩
  have HP1 := Lib.hid (pick_any at_ 16 hat (by decide))
  have HP2 := Lib.hid (pick_any by_ 255 hby (by decide))
  rw [hi] at HP1
  rw [hp] at HP2
  clear hi hp hat hby
  -- the byte that is another one
  have hx := bytesOf_all b i
  obtain ⟨x, hxx⟩ : ∃ x, (bytesOf b).getD i 0 = x := ⟨_, rfl⟩
  rw [hxx] at hx
  have hy := Nat.xor_lt_two_pow (n := 8) hx (show 1 + p < 2 ^ 8 by omega)
  have hyx : x ^^^ (1 + p) ≠ x := fun h => by
    have h2 := congrArg (x ^^^ ·) h
    simp only [← Nat.xor_assoc, Nat.xor_self, Nat.zero_xor] at h2
    omega
  obtain ⟨y, hyy⟩ : ∃ y, x ^^^ (1 + p) = y := ⟨_, rfl⟩
  have hxor := u8_xor_nat x (1 + p) hx (by omega)
  rw [hyy] at hy hyx hxor
  have hw1 : IntKind.i64.wrap (1 + (p : Int)) = ((1 + p : Nat) : Int) := by rw [IntWalk.i64_in _ (by omega)]; omega
  have hw2 : IntKind.u8.wrap ((1 + p : Nat) : Int) = ((1 + p : Nat) : Int) := by rw [IntKind.wrap_u8]; omega
  generalize 1 + p = d at hw1 hw2 hxor
  have hocs := otherOf_size b i y (by omega)
  have hne : otherOf b i y ≠ b := fun h => by
    have h2 := otherOf_byte b i y (by omega) hy
    rw [h, hxx] at h2
    exact hyx h2.symm
  have HN := Lib.hid (enc_unlike k b (otherOf b i y) hns hcs (by rw [hocs, hcs]) hne)
  obtain ⟨hE, hD, hX, z, hZ1, hZ2⟩ := enc_text n hn k b hns hcs
  have hO := (enc_text n hn k (otherOf b i y) hns (by rw [hocs, hcs])).1
  have HE := Lib.hid hE
  have HD := Lib.hid hD
  have HX := Lib.hid hX
  have HZ1 := Lib.hid hZ1
  have HZ2 := Lib.hid hZ2
  have HO := Lib.hid hO
  clear hE hD hX hZ1 hZ2 hO hne hns hn
  obtain ⟨X, hXX⟩ : ∃ X, strOf (Aes.enc (bytesOf k) (bytesOf b)) = X := ⟨_, rfl⟩
  rw [hXX] at HN HE HD HX
  obtain ⟨c, hc⟩ : ∃ c, otherOf b i y = c := ⟨_, rfl⟩
  rw [hc] at HN HO hocs
  obtain ⟨Uc, hUc⟩ : ∃ Uc, strOf (Aes.enc (bytesOf k) (bytesOf c)) = Uc := ⟨_, rfl⟩
  rw [hUc] at HN HO
  have Hc := Lib.hid hc
  have Hxx := Lib.hid hxx
  clear hXX hUc hc hxx hyx hyy
  go_enter Try.func4, Try.ntmps4
  go_wp2_with fail
  refine (awake4_any _).mono ?_
  rintro e w1 ⟨rfl, hb1⟩
  have Hb1 := Lib.hid hb1
  clear hb1
  go_wp2_with fail
  refine (HK.out _).mono ?_
  rintro e w2 ⟨rfl, hb2⟩
  have Hb2 := Lib.hid (below_seq Hb1.out hb2)
  clear hb2 Hb1
  go_wp2_with fail
  refine (HC.out _).mono ?_
  rintro e w3 ⟨rfl, hb3⟩
  have Hb3 := Lib.hid (below_seq Hb2.out hb3)
  clear hb3 Hb2 HK HC
  go_wp2_with fail
  refine (HP1.out _).mono ?_
  rintro e w4 ⟨rfl, rfl⟩
  clear HP1
  go_upto_region 5 with fail
  go_cut [15] from 34 to 52 (fun v wx => v = .string c ∧ Below w.heap.size w wx)
  case first =>
    have hidx := fun W => idx_string b (i : Int) i rfl (by omega) W
    rw [Hxx.out] at hidx
    have hs1 := fun W => sl_hi b (i : Int) i rfl (by omega) W
    have hs2 := fun W => sl_lo b ((i : Int) + 1) (i + 1) (by omega) (by omega) W
    rw [hcs] at hs2
    have HX4 : Hid (Below w.heap.size w ((w4.alloc (.cells #[U y] 5)).drew)) := Lib.hid ((Hb3.out.alloc Hb3.out.size _).drew)
    have hwi : IntKind.i64.wrap ((i : Int) + 1) = (i : Int) + 1 := IntWalk.i64_in _ (by omega)
    have hcv := conv_string (P := Try.prog) (src := 33) (dst := 9) Try.underlying33 Try.underlying5 Try.underlying9 w4.heap.size 0 1 [y] (w4.alloc (.cells #[U y] 5)).drew
      (fun j hj => by
        have h := (Row.new w4 5 #[U y]).drew.cell j
        rw [Nat.zero_add, h]
        obtain rfl : j = 0 := by simpa using hj
        rfl) 1 rfl
    have ha1 : ∀ W, (Op.stringOp .add (b.extract 0 i) (strOf [y])).run Try.prog W = .ok (.string (b.extract 0 i ++ strOf [y])) W := fun W => run_string_add_sum W _ _ (by rw [ByteArray.size_extract, strOf_size]; simp; omega)
    have ha2 : ∀ W, (Op.stringOp .add (b.extract 0 i ++ strOf [y]) (b.extract (i + 1) b.size)).run Try.prog W = .ok (.string c) W := fun W => by
      rw [← Hc.out]
      exact run_string_add_sum W _ _ (by rw [ByteArray.size_append, ByteArray.size_extract, ByteArray.size_extract, strOf_size]; simp; omega)
    have ha3 := ha2
    rw [hcs] at ha3
    go_region_with (go_at_call 17; refine (HP2.out _).mono ?_; rintro e w5 ⟨rfl, rfl⟩)
    all_goals
      go_wp2
      go_meet
      exact ⟨rfl, HX4.out⟩
  case rest =>
    obtain ⟨rfl, hB⟩ := hcut
    have HB5 := Lib.hid hB
    clear hB
    have tn := HN.out
    have tx : ((X.size : Int) == 16) = true := by rw [beq_iff_eq, HX.out]; rfl
    clear HN HX Hc Hxx hcs
    go_wp2_with fail
    refine (HE.out _).mono ?_
    rintro e w6 ⟨rfl, hb6⟩
    have HB6 := Lib.hid (below_seq HB5.out hb6)
    clear hb6 HE
    go_wp2_with fail
    refine (HD.out _).mono ?_
    rintro e w7 ⟨rfl, hb7⟩
    have HB7 := Lib.hid (below_seq HB6.out hb7)
    clear hb7 HD
    go_wp2_with fail
    refine (HZ1.out _).mono ?_
    rintro e w8 ⟨rfl, hb8⟩
    have HB8 := Lib.hid (below_seq HB7.out hb8)
    clear hb8 HZ1
    go_wp2_with fail
    refine (HZ2.out _).mono ?_
    rintro e w9 ⟨rfl, hb9⟩
    have HB9 := Lib.hid (below_seq HB8.out hb9)
    clear hb9 HZ2
    go_wp2_with fail
    refine (HO.out _).mono ?_
    rintro e w10 ⟨rfl, hb10⟩
    have HB10 := Lib.hid (below_seq HB9.out hb10)
    clear hb10 HO
    go_wp2
    go_ret
    exact ⟨rfl, HB10.out⟩

theorem own : ownKnob Try.prog.godebug = none := by kernel_rfl
theorem lay : laidOutB Try.prog = true := by kernel_rfl

set_option maxRecDepth 100000 in
theorem lifted (os : Os) (started : os.Started) (H : Type) (enc : TypeId × Value → H) :
    ReturnsInHanded {} Try.checked os 4 .any (Rows.aesBackSpec.pre6 enc Try.prog Try.f4 Rows.aesBackRow.domain false) (Rows.aesBackSpec.post enc Try.prog Try.f4 false true false false) := by
  refine returnsInHanded_of_change_sized (C := Try.checked) own started (by kernel_rfl) Try.func4
    (ChangeSpec.witness6 (enc := enc) (C := Try.checked) false ⟨#[], #[.string ⟨#[]⟩, .string ⟨#[]⟩, .bool false, .int .i64 0, .int .i64 0], []⟩ 8 (by kernel_rfl) (by kernel_rfl) (by kernel_rfl) (by kernel_rfl)) ?_
  intro W base args ds gs before hval0 hW hcnd hsz0 _
  have hval : ∀ (j : Nat) t v, Try.f4.params[j]? = some t → args[j]? = some v → Value.okWide Try.prog W .any base t v := hval0
  have hsz : (DataW.weightsEach Try.prog (Try.f4.params.toList ++ Rows.aesBackSpec.plain.varTypes Try.prog) (ds ++ gs)).all (· ≤ reachBytes) = true := hsz0
  have hW' := hW
  obtain ⟨p, q, hA0, hV, rfl, hfz, hnd⟩ := hW
  have hA : DataW.TrodAll enc Try.prog W 0 (fun _ => true) true Try.f4.params.toList args.toList ds p := hA0
  rw [Try.params4] at hA hval hsz
  obtain ⟨v0, vs0, d0, ds0, p0, q0, hargs, rfl, rfl, h0, r0⟩ := trodAll_cons hA
  obtain ⟨v1, vs1, d1, ds1, p1, q1, rfl, rfl, rfl, h1, r1⟩ := trodAll_cons r0
  obtain ⟨v2, vs2, d2, ds2, p2, q2, rfl, rfl, rfl, h2, r2⟩ := trodAll_cons r1
  obtain ⟨v3, vs3, d3, ds3, p3, q3, rfl, rfl, rfl, h3, r3⟩ := trodAll_cons r2
  obtain ⟨v4, vs4, d4, ds4, p4, q4, rfl, rfl, rfl, h4, r4⟩ := trodAll_cons r3
  obtain ⟨rfl, rfl, rfl⟩ := trodAll_nil r4
  obtain rfl : args = #[v0, v1, v2, v3, v4] := by cases args; simp_all
  obtain ⟨rfl, rfl⟩ := trodVars_none hV
  obtain ⟨a0, rfl, rfl, rfl, w0⟩ := ChangeMaps.open_string Try.underlying9 (hval 0 9 v0 rfl rfl) h0
  have z0 : a0.size ≤ 140737488351232 := sized_string hsz (j := 0) rfl rfl
  obtain ⟨a1, rfl, rfl, rfl, w1⟩ := ChangeMaps.open_string Try.underlying9 (hval 1 9 v1 rfl rfl) h1
  have z1 : a1.size ≤ 140737488351232 := sized_string hsz (j := 1) rfl rfl
  obtain ⟨a2, rfl, rfl, rfl⟩ := open_bool Try.underlying4 (hval 2 4 v2 rfl rfl) h2
  obtain ⟨a3, rfl, rfl, rfl, w3⟩ := open_int Try.underlying3 (hval 3 3 v3 rfl rfl) h3
  obtain ⟨a4, rfl, rfl, rfl, w4⟩ := open_int Try.underlying3 (hval 4 3 v4 rfl rfl) h4
  refine (walk a0 z0 a1 z1 a2 a3 (bounds_i64 w3) a4 (bounds_i64 w4) W).mono fun e W' ⟨he, hg⟩ => ?_
  subst he
  have hts : ∀ t ∈ Try.f4.params.toList, Try.prog.readableRec t = true ∧ t < Try.prog.types.size := by
    rw [Try.params4]
    intro t ht
    simp only [List.mem_cons, List.not_mem_nil, or_false] at ht
    rcases ht with rfl | rfl | rfl | rfl | rfl <;> exact ⟨by kernel_rfl, of_decide_eq_true (by kernel_rfl)⟩
  exact ⟨_, rfl, post_true lay hts (by kernel_rfl) Try.underlying4 rfl rfl hW' hg⟩

theorem proved : Rows.AesBackSaid :=
  OpenClaim.holds_of_wide 4 Try.f4 rfl rfl rfl rfl rfl rfl rfl ⟨rfl, rfl, rfl, rfl, rfl⟩ rfl rfl rfl rfl rfl (by kernel_rfl) Try.func4 (by kernel_rfl)
    (of_decide_eq_true (by kernel_rfl)) (by unfold Func.isWrapper; first | (rw [if_pos (by decide +kernel)]; kernel_rfl) | (rw [if_neg (by decide +kernel)]; exact ⟨rfl, rfl⟩))
    (fun os started H enc _ => lifted os started H enc)
#print axioms proved

end Go.Proofs.Ytkodfifmfpdjoaa.aesBack
