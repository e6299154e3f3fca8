/- For every two raw numbers the law StreamTurns of layer 5 answers true. No condition. -/
import Derived.Test.YtgcfaeipiiagdaaStrK
import Derived.Test.YtgcfaeipiiagdaaFrm
namespace Go.Proofs.Ytgcfaeipiiagdaa.streamTurns
open Go.ChangeShapes Go.WideShapes Go.ChangeAt Go.RowKit

set_option maxRecDepth 100000 in
set_option maxHeartbeats 4000000 in
theorem walk (m : Int) (hm : -9223372036854775808 ≤ m ∧ m ≤ 9223372036854775807) (n : Int) (hn : -9223372036854775808 ≤ n ∧ n ≤ 9223372036854775807) (w : World) :
    Calls Try.prog 7 #[.int .i64 m, .int .i64 n] w fun e w' => e = .returned (.bool true) ∧ Below w.heap.size w w' := by
  obtain ⟨x, hx, hx1⟩ := pick_nat m 549755813888 (by decide)
  obtain ⟨y, hy, hy1⟩ := pick_nat n 549755813888 (by decide)
  have hP1 := fun w => pick5_any m 549755813888 hm (by decide) w
  have hP2 := fun w => pick5_any n 549755813888 hn (by decide) w
  rw [show ((549755813888 : Nat) : Int) = 549755813888 from rfl] at hx hy
  rw [hx] at hP1
  rw [hy] at hP2
  have hC1 := fun w => Chunk_any ⟨#[255, 255, 255, 255, 255, 255, 255, 255, 255, 255, 255, 255, 255, 255, 255, 255]⟩ (by decide) w
  have hC2 := fun w => Chunk_any ⟨#[]⟩ (by decide) w
  rw [most_chunk] at hC1
  rw [zero_chunk] at hC2
  have hzs : (strOf (List.replicate 16 0)).size = 16 := by rw [strOf_size]; rfl
  have hN1 := fun w => Next_any ⟨#[255, 255, 255, 255, 255, 255, 255, 255, 255, 255, 255, 255, 255, 255, 255, 255]⟩ rfl (1 + x) (by omega) w
  have hN2 := fun w => Next_any (strOf (List.replicate 16 0)) hzs x (by omega) w
  have hN3 := fun w => Next_any (strOf (List.replicate 16 0)) hzs y (by omega) w
  rw [most_next, Int.natCast_add, show ((1 : Nat) : Int) = 1 from rfl] at hN1
  have hq : ((strOf (Ctr.next (bytesOf (strOf (List.replicate 16 0))) x)).toList == (strOf (Ctr.next (bytesOf (strOf (List.replicate 16 0))) y)).toList) = decide (x = y) :=
    Ctr.text_beq (Ctr.next_all _ _) (Ctr.next_all _ _) (Ctr.next_inj (by rw [bytesOf_length, hzs]) (bytesOf_all _) (by rw [Ctr.pow16]; omega) (by rw [Ctr.pow16]; omega))
  have hx0 : ((x : Int) == (y : Int)) = decide (x = y) := by
    by_cases h : x = y
    · rw [decide_eq_true h, beq_iff_eq]; omega
    · rw [decide_eq_false h, beq_eq_false_iff_ne]; omega
  have hs1 : (1 : Int) + (x : Int) - 1 = (x : Int) := by omega
  generalize strOf (Ctr.next (bytesOf (strOf (List.replicate 16 0))) x) = A at *
  generalize strOf (Ctr.next (bytesOf (strOf (List.replicate 16 0))) y) = B at *
  generalize strOf (List.replicate 16 0) = Z at *
  generalize decide (x = y) = q at *
  have HP1 := Lib.hid hP1
  have HP2 := Lib.hid hP2
  have HC1 := Lib.hid hC1
  have HC2 := Lib.hid hC2
  have HN1 := Lib.hid hN1
  have HN2 := Lib.hid hN2
  have HN3 := Lib.hid hN3
  clear hP1 hP2 hC1 hC2 hN1 hN2 hN3 hx hy hzs
  go_enter Try.func7, Try.ntmps7
  go_wp2_with fail
  refine (awake5_any _).mono ?_
  rintro e w1 ⟨rfl, hb1⟩
  have Hb1 := Lib.hid hb1
  clear hb1
  go_wp2_with fail
  refine (HC1.out _).mono ?_
  rintro e w2 ⟨rfl, hb2⟩
  have Hb2 := Lib.hid (below_seq Hb1.out hb2)
  clear hb2 HC1 Hb1
  go_wp2_with fail
  refine (HC2.out _).mono ?_
  rintro e w3 ⟨rfl, hb3⟩
  have Hb3 := Lib.hid (below_seq Hb2.out hb3)
  clear hb3 HC2 Hb2
  go_wp2_with fail
  refine (HP1.out _).mono ?_
  rintro e w4 ⟨rfl, rfl⟩
  clear HP1
  go_wp2_with fail
  refine (HP2.out _).mono ?_
  rintro e w5 ⟨rfl, rfl⟩
  clear HP2
  go_wp2_with fail
  refine (HN1.out _).mono ?_
  rintro e w6 ⟨rfl, hb6⟩
  have Hb6 := Lib.hid (below_seq Hb3.out hb6)
  clear hb6 HN1 Hb3
  go_wp2_with fail
  refine (HN2.out _).mono ?_
  rintro e w7 ⟨rfl, hb7⟩
  have Hb7 := Lib.hid (below_seq Hb6.out hb7)
  clear hb7 HN2 Hb6
  go_wp2_with fail
  refine (HN3.out _).mono ?_
  rintro e w8 ⟨rfl, hb8⟩
  have Hb8 := Lib.hid (below_seq Hb7.out hb8)
  clear hb8 HN3 Hb7
  go_wp2
  go_ret
  exact ⟨rfl, Hb8.out⟩

theorem own : ownKnob Try.prog.godebug = none := by kernel_rfl
theorem lay : laidOutB Try.prog = true := by kernel_rfl

set_option maxRecDepth 100000 in
theorem lifted (os : Os) (started : os.Started) (H : Type) (enc : TypeId × Value → H) :
    ReturnsInHanded {} Try.checked os 7 .any (Rows.streamTurnsSpec.pre6 enc Try.prog Try.f7 Rows.streamTurnsRow.domain false) (Rows.streamTurnsSpec.post enc Try.prog Try.f7 false true false false) := by
  refine returnsInHanded_of_change_sized (C := Try.checked) own started (by kernel_rfl) Try.func7
    (ChangeSpec.witness6 (enc := enc) (C := Try.checked) false ⟨#[], #[.int .i64 0, .int .i64 0], []⟩ 8 (by kernel_rfl) (by kernel_rfl) (by kernel_rfl) (by kernel_rfl)) ?_
  intro W base args ds gs before hval0 hW hcnd hsz0 _
  have hval : ∀ (j : Nat) t v, Try.f7.params[j]? = some t → args[j]? = some v → Value.okWide Try.prog W .any base t v := hval0
  have hsz : (DataW.weightsEach Try.prog (Try.f7.params.toList ++ Rows.streamTurnsSpec.plain.varTypes Try.prog) (ds ++ gs)).all (· ≤ reachBytes) = true := hsz0
  have hW' := hW
  obtain ⟨p, q, hA0, hV, rfl, hfz, hnd⟩ := hW
  have hA : DataW.TrodAll enc Try.prog W 0 (fun _ => true) true Try.f7.params.toList args.toList ds p := hA0
  rw [Try.params7] at hA hval hsz
  obtain ⟨v0, vs0, d0, ds0, p0, q0, hargs, rfl, rfl, h0, r0⟩ := trodAll_cons hA
  obtain ⟨v1, vs1, d1, ds1, p1, q1, rfl, rfl, rfl, h1, r1⟩ := trodAll_cons r0
  obtain ⟨rfl, rfl, rfl⟩ := trodAll_nil r1
  obtain rfl : args = #[v0, v1] := by cases args; simp_all
  obtain ⟨rfl, rfl⟩ := trodVars_none hV
  obtain ⟨a0, rfl, rfl, rfl, w0⟩ := open_int Try.underlying3 (hval 0 3 v0 rfl rfl) h0
  obtain ⟨a1, rfl, rfl, rfl, w1⟩ := open_int Try.underlying3 (hval 1 3 v1 rfl rfl) h1
  refine (walk a0 (bounds_i64 w0) a1 (bounds_i64 w1) W).mono fun e W' ⟨he, hg⟩ => ?_
  subst he
  have hts : ∀ t ∈ Try.f7.params.toList, Try.prog.readableRec t = true ∧ t < Try.prog.types.size := by
    rw [Try.params7]
    intro t ht
    simp only [List.mem_cons, List.not_mem_nil, or_false] at ht
    rcases ht with rfl | rfl <;> exact ⟨by kernel_rfl, of_decide_eq_true (by kernel_rfl)⟩
  exact ⟨_, rfl, post_true lay hts (by kernel_rfl) Try.underlying4 rfl rfl hW' hg⟩

theorem proved : Rows.StreamTurnsSaid :=
  OpenClaim.holds_of_wide 7 Try.f7 rfl rfl rfl rfl rfl rfl rfl ⟨rfl, rfl, rfl, rfl, rfl⟩ rfl rfl rfl rfl rfl (by kernel_rfl) Try.func7 (by kernel_rfl)
    (of_decide_eq_true (by kernel_rfl)) (by unfold Func.isWrapper; first | (rw [if_pos (by decide +kernel)]; kernel_rfl) | (rw [if_neg (by decide +kernel)]; exact ⟨rfl, rfl⟩))
    (fun os started H enc _ => lifted os started H enc)
#print axioms proved

end Go.Proofs.Ytgcfaeipiiagdaa.streamTurns
