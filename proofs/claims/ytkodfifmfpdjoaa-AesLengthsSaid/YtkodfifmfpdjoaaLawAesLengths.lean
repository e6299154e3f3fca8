/- For every two numbers the law AesLengths of layer 4 answers true and leaves its arguments as they were. No condition. -/
import Derived.Test.YtkodfifmfpdjoaaLawB
import Derived.Test.YtkodfifmfpdjoaaLawZ
import Derived.Test.YtkodfifmfpdjoaaFrm
import Derived.Deep.CutRange
import Derived.Deep.RegionWith
namespace Go.Proofs.Ytkodfifmfpdjoaa.aesLengths
open Go.ChangeShapes Go.WideShapes Go.ChangeAt Go.RowKit

/-- What is told of a key of a bytes and a block of b. -/
def Told (a b : Nat) (x : ByteArray) (f : Int) : Prop :=
  ((a = 16 ∨ a = 32) ∧ b = 16 ∧ f = 0 ∧ x.size = 16) ∨ (¬ ((a = 16 ∨ a = 32) ∧ b = 16) ∧ f = 1 ∧ x = ⟨#[]⟩)

theorem enc_told (a b : Nat) (w : World) : Calls Try.prog 13 #[.string (zeros a), .string (zeros b)] w fun e w' =>
    ∃ x f, e = .returned (.tuple #[.string x, .int .i64 f]) ∧ Told a b x f ∧ Below w.heap.size w w' := by
  by_cases h : (a = 16 ∨ a = 32) ∧ b = 16
  · obtain ⟨n, hn, hk⟩ : ∃ n, (n = 4 ∨ n = 8) ∧ (zeros a).size = 4 * n := by
      rw [zeros_size]
      rcases h.1 with h | h
      · exact ⟨4, .inl rfl, by omega⟩
      · exact ⟨8, .inr rfl, by omega⟩
    refine (Encrypt_any n hn (zeros a) (zeros b) hk (by rw [zeros_size]; exact h.2) w).mono fun e w' h2 => ⟨_, _, h2.1, .inl ⟨h.1, h.2, rfl, ?_⟩, h2.2⟩
    rw [strOf_size]
    exact (Aes.enc_length (n := n) (by rw [bytesOf_length, hk]) (bytesOf_all _) (bytesOf_all _)).1
  · refine (Encrypt_none (zeros a) (zeros b) ?_ w).mono fun e w' h2 => ⟨_, _, h2.1, .inr ⟨h, rfl, rfl⟩, h2.2⟩
    unfold Aes.badKey
    rw [zeros_size, zeros_size]
    omega
theorem dec_told (a b : Nat) (w : World) : Calls Try.prog 15 #[.string (zeros a), .string (zeros b)] w fun e w' =>
    ∃ x f, e = .returned (.tuple #[.string x, .int .i64 f]) ∧ Told a b x f ∧ Below w.heap.size w w' := by
  by_cases h : (a = 16 ∨ a = 32) ∧ b = 16
  · obtain ⟨n, hn, hk⟩ : ∃ n, (n = 4 ∨ n = 8) ∧ (zeros a).size = 4 * n := by
      rw [zeros_size]
      rcases h.1 with h | h
      · exact ⟨4, .inl rfl, by omega⟩
      · exact ⟨8, .inr rfl, by omega⟩
    refine (Decrypt_any n hn (zeros a) (zeros b) hk (by rw [zeros_size]; exact h.2) w).mono fun e w' h2 => ⟨_, _, h2.1, .inl ⟨h.1, h.2, rfl, ?_⟩, h2.2⟩
    rw [strOf_size]
    exact (Aes.dec_length (n := n) (by rw [bytesOf_length, hk]) (bytesOf_all _) (by rw [bytesOf_length, zeros_size]; exact h.2) (bytesOf_all _)).1
  · refine (Decrypt_none (zeros a) (zeros b) ?_ w).mono fun e w' h2 => ⟨_, _, h2.1, .inr ⟨h, rfl, rfl⟩, h2.2⟩
    unfold Aes.badKey
    rw [zeros_size, zeros_size]
    omega
theorem exp_told (a : Nat) (w : World) : Calls Try.prog 11 #[.string (zeros a)] w fun e w' =>
    ∃ x f, e = .returned (.tuple #[.string x, .int .i64 f]) ∧ (((a = 16 ∨ a = 32) ∧ f = 0) ∨ (¬ (a = 16 ∨ a = 32) ∧ f = 1)) ∧ Below w.heap.size w w' := by
  by_cases h : a = 16 ∨ a = 32
  · obtain ⟨n, hn, hk⟩ : ∃ n, (n = 4 ∨ n = 8) ∧ (zeros a).size = 4 * n := by
      rw [zeros_size]
      rcases h with h | h
      · exact ⟨4, .inl rfl, by omega⟩
      · exact ⟨8, .inr rfl, by omega⟩
    exact (Expand_any n hn (zeros a) hk w).mono fun e w' h2 => ⟨_, _, h2.1, .inl ⟨h, rfl⟩, h2.2⟩
  · refine (Expand_none (zeros a) ?_ w).mono fun e w' h2 => ⟨_, _, h2.1, .inr ⟨h, rfl⟩, h2.2⟩
    unfold Aes.badKey
    rw [zeros_size]
    omega

set_option maxRecDepth 100000 in
set_option maxHeartbeats 4000000 in
theorem walk (m : Int) (hm : -9223372036854775808 ≤ m ∧ m ≤ 9223372036854775807) (n : Int) (hn : -9223372036854775808 ≤ n ∧ n ≤ 9223372036854775807) (w : World) :
    Calls Try.prog 7 #[.int .i64 m, .int .i64 n] w fun e w' => e = .returned (.bool true) ∧ Below w.heap.size w w' := by
  obtain ⟨a, ha, hal⟩ : ∃ a : Nat, pickOf m 50 = (a : Int) ∧ a < 50 := by
    have h := pickOf_range (c := m) (n := 50) (by decide)
    exact ⟨(pickOf m 50).toNat, by omega, by omega⟩
  obtain ⟨b, hb, hbl⟩ : ∃ b : Nat, pickOf n 40 = (b : Int) ∧ b < 40 := by
    have h := pickOf_range (c := n) (n := 40) (by decide)
    exact ⟨(pickOf n 40).toNat, by omega, by omega⟩
  have Hma := Lib.hid (make_zero a (by omega))
  have Hmb := Lib.hid (make_zero b (by omega))
  go_enter Try.func7, Try.ntmps7
  go_wp2_with fail
  refine (awake4_any _).mono ?_
  rintro e w1 ⟨rfl, hb1⟩
  have Hb1 := Lib.hid hb1
  clear hb1
  go_wp2_with fail
  refine (pick_any m 50 hm (by decide) _).mono ?_
  rintro e w2 ⟨rfl, rfl⟩
  rw [ha]
  go_wp2_with fail
  refine (pick_any n 40 hn (by decide) _).mono ?_
  rintro e w2 ⟨rfl, rfl⟩
  rw [hb]
  clear ha hb hm hn
  have hma := Hma.out w2
  have hca := (conv_two a b w2).1
  go_wp2_with fail
  refine (exp_told a _).mono ?_
  rintro e w3 ⟨c, ef, rfl, hE, hb3⟩
  have hB3 : Below w.heap.size w w3 := below_seq Hb1.out (below_seq ((Below.refl _ w2).alloc (Nat.le_refl _) _) hb3)
  have HB3 := Lib.hid hB3
  have HE := Lib.hid hE
  clear hma hca hb3 hB3 Hb1 hE
  go_upto_region 5 with fail
  go_cut [10, 11] from 28 to 36 (fun x f wx => ∃ X F, x = .string X ∧ f = .int .i64 F ∧ Told a b X F ∧ Below w.heap.size w wx)
  case first =>
    have hma := Hma.out
    have hmb := Hmb.out
    obtain ⟨e1, e2, e3⟩ := conv_two_drew a b w3
    obtain ⟨e4, e5, e6⟩ := conv_two_drew b a w3
    have Hx : Hid (∀ A B : Obj, Below w3.heap.size w3 ((w3.alloc A).alloc B).drew) := Lib.hid (fun A B => (((Below.refl _ w3).alloc (Nat.le_refl _) A).alloc (by simp) B).drew)
    go_region_with (go_at_call 13; refine (enc_told a b _).mono ?_; rintro e w4 ⟨X, F, rfl, hT, hb4⟩)
    all_goals
      have HT := Lib.hid hT
      have HB4 := Lib.hid (below_seq HB3.out (below_seq (Hx.out _ _) hb4))
      clear hT hb4 e1 e2 e3 e4 e5 e6 hma hmb
      go_wp2
      go_meet
      exact ⟨_, _, rfl, rfl, HT.out, HB4.out⟩
  obtain ⟨X5, F5, rfl, rfl, hT5, hB5⟩ := hcut
  have HT5 := Lib.hid hT5
  have HB5 := Lib.hid hB5
  clear hT5 hB5
  obtain ⟨w5, hw5⟩ : ∃ w5, wc = w5 := ⟨_, rfl⟩
  subst hw5
  go_upto_region 6 with fail
  go_cut [12, 13] from 38 to 46 (fun x f wx => ∃ X F, x = .string X ∧ f = .int .i64 F ∧ Told a b X F ∧ Below w.heap.size w wx)
  case first =>
    have hma := Hma.out
    have hmb := Hmb.out
    obtain ⟨e1, e2, e3⟩ := conv_two_drew a b wc
    obtain ⟨e4, e5, e6⟩ := conv_two_drew b a wc
    have Hx : Hid (∀ A B : Obj, Below wc.heap.size wc ((wc.alloc A).alloc B).drew) := Lib.hid (fun A B => (((Below.refl _ wc).alloc (Nat.le_refl _) A).alloc (by simp) B).drew)
    go_region_with (go_at_call 15; refine (dec_told a b _).mono ?_; rintro e w6 ⟨X, F, rfl, hT, hb4⟩)
    all_goals
      have HT := Lib.hid hT
      have HB4 := Lib.hid (below_seq HB5.out (below_seq (Hx.out _ _) hb4))
      clear hT hb4 e1 e2 e3 e4 e5 e6 hma hmb
      go_wp2
      go_meet
      exact ⟨_, _, rfl, rfl, HT.out, HB4.out⟩
  obtain ⟨X6, F6, rfl, rfl, hT6, hB6⟩ := hcut
  have HT6 := Lib.hid hT6
  have HB6 := Lib.hid hB6
  clear hT6 hB6
  have T5 := HT5.out
  have T6 := HT6.out
  have TE := HE.out
  clear HT5 HT6 HE
  have hadd : ∀ w, (Op.stringOp .add ⟨#[]⟩ ⟨#[]⟩).run Try.prog w = .ok (.string ⟨#[]⟩) w := fun w => run_string_add_sum w _ _ (by decide)
  rcases T5 with ⟨hk, hb16, rfl, hX5⟩ | ⟨hn5, rfl, rfl⟩
  · have t3 : ((b : Int) == 16) = true := by rw [beq_iff_eq]; omega
    have tx : ((X5.size : Int) == 16) = true := by rw [beq_iff_eq]; omega
    obtain ⟨rfl, hX6⟩ : F6 = 0 ∧ X6.size = 16 := by
      rcases T6 with ⟨_, _, h, h2⟩ | ⟨h, _⟩
      · exact ⟨h, h2⟩
      · exact absurd ⟨hk, hb16⟩ h
    have ty : ((X6.size : Int) == 16) = true := by rw [beq_iff_eq]; omega
    obtain rfl : ef = 0 := by
      rcases TE with ⟨_, h⟩ | ⟨h, _⟩
      · exact h
      · exact absurd hk h
    clear hX5 hX6 T6 TE hb16 hadd
    rcases hk with h | h
    · have t1 : ((a : Int) == 16) = true := by rw [beq_iff_eq]; omega
      clear h
      go_wp2
      go_ret
      exact ⟨rfl, HB6.out⟩
    · have t1 : ((a : Int) == 16) = false := by rw [beq_eq_false_iff_ne]; omega
      have t2 : ((a : Int) == 32) = true := by rw [beq_iff_eq]; omega
      clear h
      go_wp2
      go_ret
      exact ⟨rfl, HB6.out⟩
  · obtain ⟨rfl, rfl⟩ : F6 = 1 ∧ X6 = ⟨#[]⟩ := by
      rcases T6 with ⟨h1, h2, _, _⟩ | ⟨_, h, h2⟩
      · exact absurd ⟨h1, h2⟩ hn5
      · exact ⟨h, h2⟩
    clear T6
    rcases TE with ⟨hk, rfl⟩ | ⟨hk, rfl⟩
    · have t3 : ((b : Int) == 16) = false := by rw [beq_eq_false_iff_ne]; omega
      clear hn5
      rcases hk with h | h
      · have t1 : ((a : Int) == 16) = true := by rw [beq_iff_eq]; omega
        clear h
        go_wp2
        go_ret
        exact ⟨rfl, HB6.out⟩
      · have t1 : ((a : Int) == 16) = false := by rw [beq_eq_false_iff_ne]; omega
        have t2 : ((a : Int) == 32) = true := by rw [beq_iff_eq]; omega
        clear h
        go_wp2
        go_ret
        exact ⟨rfl, HB6.out⟩
    · have t1 : ((a : Int) == 16) = false := by rw [beq_eq_false_iff_ne]; omega
      have t2 : ((a : Int) == 32) = false := by rw [beq_eq_false_iff_ne]; omega
      clear hk hn5
      go_wp2
      go_ret
      exact ⟨rfl, HB6.out⟩

theorem own : ownKnob Try.prog.godebug = none := by kernel_rfl
theorem lay : laidOutB Try.prog = true := by kernel_rfl

set_option maxRecDepth 100000 in
theorem lifted (os : Os) (started : os.Started) (H : Type) (enc : TypeId × Value → H) :
    ReturnsInHanded {} Try.checked os 7 .any (Rows.aesLengthsSpec.pre6 enc Try.prog Try.f7 Rows.aesLengthsRow.domain false) (Rows.aesLengthsSpec.post enc Try.prog Try.f7 false true false false) := by
  refine returnsInHanded_of_change_sized (C := Try.checked) own started (by kernel_rfl) Try.func7
    (ChangeSpec.witness6 (enc := enc) (C := Try.checked) false ⟨#[], #[.int .i64 0, .int .i64 0], []⟩ 8 (by kernel_rfl) (by kernel_rfl) (by kernel_rfl) (by kernel_rfl)) ?_
  intro W base args ds gs before hval0 hW hcnd hsz0 _
  have hval : ∀ (j : Nat) t v, Try.f7.params[j]? = some t → args[j]? = some v → Value.okWide Try.prog W .any base t v := hval0
  have hsz : (DataW.weightsEach Try.prog (Try.f7.params.toList ++ Rows.aesLengthsSpec.plain.varTypes Try.prog) (ds ++ gs)).all (· ≤ reachBytes) = true := hsz0
  have hW' := hW
  obtain ⟨p, q, hA0, hV, rfl, hfz, hnd⟩ := hW
  have hA : DataW.TrodAll enc Try.prog W 0 (fun _ => true) true Try.f7.params.toList args.toList ds p := hA0
  rw [Try.params7] at hA hval hsz
  obtain ⟨v0, vs0, d0, ds0, p0, q0, hargs, rfl, rfl, h0, r0⟩ := trodAll_cons hA
  obtain ⟨v1, vs1, d1, ds1, p1, q1, rfl, rfl, rfl, h1, r1⟩ := trodAll_cons r0
  obtain ⟨rfl, rfl, rfl⟩ := trodAll_nil r1
  obtain rfl : args = #[v0, v1] := by cases args; simp_all
  obtain ⟨rfl, rfl⟩ := trodVars_none hV
  obtain ⟨a0, rfl, rfl, rfl, w0⟩ := open_int Try.underlying3 (hval 0 3 v0 rfl rfl) h0
  obtain ⟨a1, rfl, rfl, rfl, w1⟩ := open_int Try.underlying3 (hval 1 3 v1 rfl rfl) h1
  refine (walk a0 (bounds_i64 w0) a1 (bounds_i64 w1) W).mono fun e W' ⟨he, hg⟩ => ?_
  subst he
  have hts : ∀ t ∈ Try.f7.params.toList, Try.prog.readableRec t = true ∧ t < Try.prog.types.size := by
    rw [Try.params7]
    intro t ht
    simp only [List.mem_cons, List.not_mem_nil, or_false] at ht
    rcases ht with rfl | rfl <;> exact ⟨by kernel_rfl, of_decide_eq_true (by kernel_rfl)⟩
  exact ⟨_, rfl, post_true lay hts (by kernel_rfl) Try.underlying4 rfl rfl hW' hg⟩

theorem proved : Rows.AesLengthsSaid :=
  OpenClaim.holds_of_wide 7 Try.f7 rfl rfl rfl rfl rfl rfl rfl ⟨rfl, rfl, rfl, rfl, rfl⟩ rfl rfl rfl rfl rfl (by kernel_rfl) Try.func7 (by kernel_rfl)
    (of_decide_eq_true (by kernel_rfl)) (by unfold Func.isWrapper; first | (rw [if_pos (by decide +kernel)]; kernel_rfl) | (rw [if_neg (by decide +kernel)]; exact ⟨rfl, rfl⟩))
    (fun os started H enc _ => lifted os started H enc)
#print axioms proved

end Go.Proofs.Ytkodfifmfpdjoaa.aesLengths
