/- For every byte the law FieldBack of layer 3 answers true and leaves its argument as it was. No condition. -/
import Derived.Test.YtolfbfchihpokaaFldW
import Derived.Test.YtolfbfchihpokaaEnd
namespace Go.Proofs.Ytolfbfchihpokaa.fieldBack
open Go.ChangeShapes Go.WideShapes Go.ChangeAt Go.RowKit

theorem own : ownKnob Try.prog.godebug = none := by kernel_rfl

set_option maxHeartbeats 2000000 in
theorem walk (a0 : Int) (w0 : (Lit.int .u8 a0).wf = true) (w : World) :
    Calls Try.prog 3 #[.int .u8 a0] w fun e w' => e = .returned (.bool true) ∧ Below w.heap.size w w' := by
  obtain ⟨h0, h1⟩ : 0 ≤ a0 ∧ a0 ≤ 255 := by simpa [Lit.wf, IntKind.min, IntKind.max, IntKind.bits, IntKind.signed] using w0
  clear w0
  obtain ⟨a, rfl⟩ := Int.eq_ofNat_of_zero_le h0
  have ha : a < 256 := by omega
  have hi := Fld.inv_lt a ha
  have hs := Fld.sub_lt a ha
  have hk := Fld.back_lt a ha
  have e1 := Fld.inv_inv a ha
  have e2 := Fld.back_sub a ha
  have e3 := Fld.sub_back a ha
  obtain ⟨n1, n2⟩ := Fld.sub_ne a ha
  have t1 : (((Fld.sub a : Nat) : Int) != (a : Int)) = true := by rw [bne_iff_ne]; omega
  have hx : bits BinOp.xor IntKind.u8 ((Fld.sub a : Nat) : Int) (a : Int) = ((Fld.sub a ^^^ a : Nat) : Int) := u8_xor_nat _ _ hs ha
  have t2 : (((Fld.sub a ^^^ a : Nat) : Int) != 255) = true := by rw [bne_iff_ne]; omega
  clear n1 n2
  by_cases hz : a = 0
  · have z1 : ((a : Int) == 0) = true := by rw [beq_iff_eq]; omega
    have z2 : (((Fld.inv a : Nat) : Int) == 0) = true := by rw [beq_iff_eq, hz]; exact congrArg Nat.cast Fld.awake_all.2.2.1
    clear hz
    go_enter Try.func3, Try.ntmps3
    go_wp2_with fail
    refine (awake3_any _).mono ?_
    rintro e v1 ⟨rfl, b1⟩
    go_wp2_with fail
    refine (inv_nat a ha _).mono ?_
    rintro e v2 ⟨rfl, b2⟩
    go_wp2_with fail
    refine (sub_nat a ha _).mono ?_
    rintro e v3 ⟨rfl, b3⟩
    go_wp2_with fail
    refine (inv_nat (Fld.inv a) hi _).mono ?_
    rw [e1]
    rintro e v4 ⟨rfl, b4⟩
    go_wp2_with fail
    refine (back_nat (Fld.sub a) hs _).mono ?_
    rw [e2]
    rintro e v6 ⟨rfl, b6⟩
    go_wp2_with fail
    refine (back_nat a ha _).mono ?_
    rintro e v7 ⟨rfl, b7⟩
    go_wp2_with fail
    refine (sub_nat (Fld.back a) hk _).mono ?_
    rw [e3]
    rintro e v8 ⟨rfl, b8⟩
    go_wp2
    go_ret
    refine ⟨rfl, ?_⟩
    exact below_seq b1 (below_seq b2 (below_seq b3 (below_seq b4 (below_seq b6 (below_seq b7 b8)))))
  · have e4 := Fld.mul_inv a ha hz
    have z1 : ((a : Int) == 0) = false := by rw [beq_eq_false_iff_ne]; omega
    clear hz
    go_enter Try.func3, Try.ntmps3
    go_wp2_with fail
    refine (awake3_any _).mono ?_
    rintro e v1 ⟨rfl, b1⟩
    go_wp2_with fail
    refine (inv_nat a ha _).mono ?_
    rintro e v2 ⟨rfl, b2⟩
    go_wp2_with fail
    refine (sub_nat a ha _).mono ?_
    rintro e v3 ⟨rfl, b3⟩
    go_wp2_with fail
    refine (inv_nat (Fld.inv a) hi _).mono ?_
    rw [e1]
    rintro e v4 ⟨rfl, b4⟩
    go_wp2_with fail
    refine (mul_nat a (Fld.inv a) ha hi _).mono ?_
    rw [e4]
    rintro e v5 ⟨rfl, b5⟩
    go_wp2_with fail
    refine (back_nat (Fld.sub a) hs _).mono ?_
    rw [e2]
    rintro e v6 ⟨rfl, b6⟩
    go_wp2_with fail
    refine (back_nat a ha _).mono ?_
    rintro e v7 ⟨rfl, b7⟩
    go_wp2_with fail
    refine (sub_nat (Fld.back a) hk _).mono ?_
    rw [e3]
    rintro e v8 ⟨rfl, b8⟩
    go_wp2
    go_ret
    refine ⟨rfl, ?_⟩
    exact below_seq b1 (below_seq b2 (below_seq b3 (below_seq b4 (below_seq b5 (below_seq b6 (below_seq b7 b8))))))

set_option maxRecDepth 100000 in
theorem lifted (os : Os) (started : os.Started) (H : Type) (enc : TypeId × Value → H) :
    ReturnsInHanded {} Try.checked os 3 .any (Rows.fieldBackSpec.pre6 enc Try.prog Try.f3 Rows.fieldBackRow.domain false) (Rows.fieldBackSpec.post enc Try.prog Try.f3 false true false false) := by
  refine returnsInHanded_of_change (C := Try.checked) own started (by kernel_rfl) Try.func3
    (ChangeSpec.witness6 (enc := enc) (C := Try.checked) false ⟨#[], #[.int .u8 0], []⟩ 8 (by kernel_rfl) (by kernel_rfl) (by kernel_rfl) (by kernel_rfl)) ?_
  intro W base args ds gs before hval0 hW hcnd _
  have hval : ∀ (j : Nat) t v, Try.f3.params[j]? = some t → args[j]? = some v → Value.okWide Try.prog W .any base t v := hval0
  have hW' := hW
  obtain ⟨p, q, hA0, hV, rfl, hfz, hnd⟩ := hW
  have hA : DataW.TrodAll enc Try.prog W 0 (fun _ => true) true Try.f3.params.toList args.toList ds p := hA0
  rw [Try.params3] at hA hval
  obtain ⟨v0, vs0, d0, ds0, p0, q0, hargs, rfl, rfl, h0, r0⟩ := trodAll_cons hA
  obtain ⟨rfl, rfl, rfl⟩ := trodAll_nil r0
  obtain rfl : args = #[v0] := by cases args; simp_all
  obtain ⟨rfl, rfl⟩ := trodVars_none hV
  obtain ⟨a0, rfl, rfl, rfl, w0⟩ := open_int Try.underlying5 (hval 0 5 v0 rfl rfl) h0
  clear hA0 hval0
  simp only [List.append_nil] at hW'
  refine (walk a0 w0 W).mono fun e W' ⟨he, hg⟩ => ?_
  subst he
  exact ⟨_, rfl, post_law rfl hW' hg (fun _ _ _ => (trodAll_cons_mk (shut_bool Try.underlying4 _) trodAll_mk0)) (fun sp _ => (trodAll_cons_mk (shut_int Try.underlying5 w0) trodAll_mk0)) (fun _ => rfl) rfl
    (ok_one (by kernel_rfl) rfl (okWide_bool_mk Try.underlying4 _))⟩

theorem proved : Rows.FieldBackSaid :=
  OpenClaim.holds_of_wide 3 Try.f3 rfl rfl rfl rfl rfl rfl rfl ⟨rfl, rfl, rfl, rfl, rfl⟩ rfl rfl rfl rfl rfl (by kernel_rfl) Try.func3 (by kernel_rfl)
    (of_decide_eq_true (by kernel_rfl)) (by unfold Func.isWrapper; first | (rw [if_pos (by decide +kernel)]; kernel_rfl) | (rw [if_neg (by decide +kernel)]; exact ⟨rfl, rfl⟩))
    (fun os started H enc _ => lifted os started H enc)
#print axioms proved

end Go.Proofs.Ytolfbfchihpokaa.fieldBack
