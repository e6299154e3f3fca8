/- For every two bytes the law FieldShift of layer 3 answers true and leaves its arguments as they were. No condition. -/
import Derived.Test.YtolfbfchihpokaaFldW
import Derived.Test.YtolfbfchihpokaaFldT
import Derived.Test.YtolfbfchihpokaaEnd
namespace Go.Proofs.Ytolfbfchihpokaa.fieldShift
open Go.ChangeShapes Go.WideShapes Go.ChangeAt Go.RowKit

theorem own : ownKnob Try.prog.godebug = none := by kernel_rfl

set_option maxHeartbeats 2000000 in
theorem walk (a : Nat) (ha : a < 256) (b : Nat) (hb : b < 256) (w : World) :
    Calls Try.prog 4 #[U a, U b] w fun e w' => e = .returned (.bool true) ∧ Below w.heap.size w w' := by
  have la := Fld.rinv_lt a
  have lb := Fld.rinv_lt b
  have lx : Fld.rinv a ^^^ Fld.rinv b < 256 := Nat.xor_lt_two_pow (n := 8) la lb
  have sa := Fld.sub_lt a ha
  have sb := Fld.sub_lt b hb
  have sab : Fld.sub a ^^^ Fld.sub b < 256 := Nat.xor_lt_two_pow (n := 8) sa sb
  have hx1 : bits BinOp.xor IntKind.u8 ((Fld.rinv a : Nat) : Int) ((Fld.rinv b : Nat) : Int) = ((Fld.rinv a ^^^ Fld.rinv b : Nat) : Int) := u8_xor_nat _ _ la lb
  have hx2 : bits BinOp.xor IntKind.u8 ((Fld.sub a : Nat) : Int) ((Fld.sub b : Nat) : Int) = ((Fld.sub a ^^^ Fld.sub b : Nat) : Int) := u8_xor_nat _ _ sa sb
  have hx3 : bits BinOp.xor IntKind.u8 ((Fld.sub a ^^^ Fld.sub b : Nat) : Int) 99 = ((Fld.sub (Fld.rinv (Fld.rinv a ^^^ Fld.rinv b)) : Nat) : Int) := by
    rw [Fld.sub_shift a b ha hb, Fld.awake_all.2.1]
    exact u8_xor_nat _ 99 sab (by decide)
  have k1 := Lib.hid (refInv_nat a ha)
  have k2 := Lib.hid (refInv_nat b hb)
  have k3 := Lib.hid (refInv_nat _ lx)
  have k4 := Lib.hid (sub_nat (Fld.rinv (Fld.rinv a ^^^ Fld.rinv b)) (Fld.rinv_lt _))
  have k5 := Lib.hid (sub_nat a ha)
  have k6 := Lib.hid (sub_nat b hb)
  clear la lb lx sa sb sab ha hb
  go_enter Try.func4, Try.ntmps4
  go_wp2_with fail
  refine (awake3_any _).mono ?_
  rintro e v1 ⟨rfl, b1⟩
  go_wp2_with fail
  refine (k1.out _).mono ?_
  rintro e v2 ⟨rfl, rfl⟩
  go_wp2_with fail
  refine (k2.out _).mono ?_
  rintro e v2 ⟨rfl, rfl⟩
  go_wp2_with fail
  refine (k3.out _).mono ?_
  rintro e v2 ⟨rfl, rfl⟩
  go_wp2_with fail
  refine (k4.out _).mono ?_
  rintro e v4 ⟨rfl, b4⟩
  go_wp2_with fail
  refine (k5.out _).mono ?_
  rintro e v5 ⟨rfl, b5⟩
  go_wp2_with fail
  refine (k6.out _).mono ?_
  rintro e v6 ⟨rfl, b6⟩
  go_wp2_with fail
  refine (Fld.awake_calls _).2.1.mono ?_
  rintro e v7 ⟨rfl, b7⟩
  go_wp2
  go_ret
  exact ⟨rfl, below_seq b1 (below_seq b4 (below_seq b5 (below_seq b6 b7)))⟩

set_option maxRecDepth 100000 in
theorem lifted (os : Os) (started : os.Started) (H : Type) (enc : TypeId × Value → H) :
    ReturnsInHanded {} Try.checked os 4 .any (Rows.fieldShiftSpec.pre6 enc Try.prog Try.f4 Rows.fieldShiftRow.domain false) (Rows.fieldShiftSpec.post enc Try.prog Try.f4 false true false false) := by
  refine returnsInHanded_of_change (C := Try.checked) own started (by kernel_rfl) Try.func4
    (ChangeSpec.witness6 (enc := enc) (C := Try.checked) false ⟨#[], #[.int .u8 0, .int .u8 0], []⟩ 8 (by kernel_rfl) (by kernel_rfl) (by kernel_rfl) (by kernel_rfl)) ?_
  intro W base args ds gs before hval0 hW hcnd _
  have hval : ∀ (j : Nat) t v, Try.f4.params[j]? = some t → args[j]? = some v → Value.okWide Try.prog W .any base t v := hval0
  have hW' := hW
  obtain ⟨p, q, hA0, hV, rfl, hfz, hnd⟩ := hW
  have hA : DataW.TrodAll enc Try.prog W 0 (fun _ => true) true Try.f4.params.toList args.toList ds p := hA0
  rw [Try.params4] at hA hval
  obtain ⟨v0, vs0, d0, ds0, p0, q0, hargs, rfl, rfl, h0, r0⟩ := trodAll_cons hA
  obtain ⟨v1, vs1, d1, ds1, p1, q1, rfl, rfl, rfl, h1, r1⟩ := trodAll_cons r0
  obtain ⟨rfl, rfl, rfl⟩ := trodAll_nil r1
  obtain rfl : args = #[v0, v1] := by cases args; simp_all
  obtain ⟨rfl, rfl⟩ := trodVars_none hV
  obtain ⟨a0, rfl, rfl, rfl, w0⟩ := open_int Try.underlying5 (hval 0 5 v0 rfl rfl) h0
  have b0 := bounds_u8 w0
  obtain ⟨a0, rfl⟩ := Int.eq_ofNat_of_zero_le b0.1
  have l0 : a0 < 256 := by omega
  obtain ⟨a1, rfl, rfl, rfl, w1⟩ := open_int Try.underlying5 (hval 1 5 v1 rfl rfl) h1
  have b1 := bounds_u8 w1
  obtain ⟨a1, rfl⟩ := Int.eq_ofNat_of_zero_le b1.1
  have l1 : a1 < 256 := by omega
  clear hA0 hval0
  simp only [List.append_nil] at hW'
  refine (walk a0 l0 a1 l1 W).mono fun e W' ⟨he, hg⟩ => ?_
  subst he
  exact ⟨_, rfl, post_law rfl hW' hg (fun _ _ _ => (trodAll_cons_mk (shut_bool Try.underlying4 _) trodAll_mk0)) (fun sp _ => (trodAll_cons_mk (shut_int Try.underlying5 w0) (trodAll_cons_mk (shut_int Try.underlying5 w1) trodAll_mk0))) (fun _ => rfl) rfl
    (ok_one (by kernel_rfl) rfl (okWide_bool_mk Try.underlying4 _))⟩

theorem proved : Rows.FieldShiftSaid :=
  OpenClaim.holds_of_wide 4 Try.f4 rfl rfl rfl rfl rfl rfl rfl ⟨rfl, rfl, rfl, rfl, rfl⟩ rfl rfl rfl rfl rfl (by kernel_rfl) Try.func4 (by kernel_rfl)
    (of_decide_eq_true (by kernel_rfl)) (by unfold Func.isWrapper; first | (rw [if_pos (by decide +kernel)]; kernel_rfl) | (rw [if_neg (by decide +kernel)]; exact ⟨rfl, rfl⟩))
    (fun os started H enc _ => lifted os started H enc)
#print axioms proved

end Go.Proofs.Ytolfbfchihpokaa.fieldShift
