/- For every counter and two raw numbers the law StreamCounts of layer 5 answers true and leaves its arguments as they were. No condition. -/
import Derived.Test.YtgcfaeipiiagdaaStrK
import Derived.Test.YtgcfaeipiiagdaaFrm
namespace Go.Proofs.Ytgcfaeipiiagdaa.streamCounts
open Go.ChangeShapes Go.WideShapes Go.ChangeAt Go.RowKit

set_option maxRecDepth 100000 in
set_option maxHeartbeats 4000000 in
theorem walk (counter : ByteArray) (hcounter : counter.size ≤ 140737488351232) (m : Int) (hm : -9223372036854775808 ≤ m ∧ m ≤ 9223372036854775807) (n : Int) (hn : -9223372036854775808 ≤ n ∧ n ≤ 9223372036854775807) (w : World) :
    Calls Try.prog 5 #[.string counter, .int .i64 m, .int .i64 n] w fun e w' => e = .returned (.bool true) ∧ Below w.heap.size w w' := by
  obtain ⟨x, hx, hx1⟩ := pick_nat m 549755813888 (by decide)
  obtain ⟨y, hy, hy1⟩ := pick_nat n 549755813888 (by decide)
  have hP1 := fun w => pick5_any m 549755813888 hm (by decide) w
  have hP2 := fun w => pick5_any n 549755813888 hn (by decide) w
  rw [show ((549755813888 : Nat) : Int) = 549755813888 from rfl] at hx hy
  rw [hx] at hP1
  rw [hy] at hP2
  have hC := fun w => Chunk_any counter hcounter w
  have hcs := chunkOf_size counter
  obtain ⟨c, hcc⟩ : ∃ c, chunkOf counter = c := ⟨_, rfl⟩
  rw [hcc] at hC hcs
  have hcl : (bytesOf c).length = 16 := by rw [bytesOf_length, hcs]
  have hN1 := fun w => Next_any c hcs x (by omega) w
  have hN2 := fun w => Next_from c hcs x y (by omega) w
  have hN3 := fun w => Next_any c hcs (x + y) (by omega) w
  have hN4 := fun w => Next_any c hcs 0 (by omega) w
  rw [Int.natCast_add] at hN3
  rw [Ctr.next_zero hcl (bytesOf_all c), strOf_bytesOf, show ((0 : Nat) : Int) = 0 from rfl] at hN4
  have hq : ((strOf (Ctr.next (bytesOf c) x)).toList == c.toList) = decide (x = 0) := by
    have h := Ctr.text_beq (Ctr.next_all (bytesOf c) x) (bytesOf_all c) (Ctr.next_same hcl (bytesOf_all c) (x := x) (by rw [Ctr.pow16]; omega))
    rwa [strOf_bytesOf] at h
  have hx0 : ((x : Int) == 0) = decide (x = 0) := by
    by_cases h : x = 0
    · subst h; rfl
    · rw [decide_eq_false h, beq_eq_false_iff_ne]; omega
  generalize strOf (Ctr.next (bytesOf c) x) = A at *
  generalize strOf (Ctr.next (bytesOf c) (x + y)) = B at *
  generalize decide (x = 0) = q at *
  have HP1 := Lib.hid hP1
  have HP2 := Lib.hid hP2
  have HC := Lib.hid hC
  have HN1 := Lib.hid hN1
  have HN2 := Lib.hid hN2
  have HN3 := Lib.hid hN3
  have HN4 := Lib.hid hN4
  clear hP1 hP2 hC hN1 hN2 hN3 hN4 hx hy hcc hcs hcl
  go_enter Try.func5, Try.ntmps5
  go_wp2_with fail
  refine (awake5_any _).mono ?_
  rintro e w1 ⟨rfl, hb1⟩
  have Hb1 := Lib.hid hb1
  clear hb1
  go_wp2_with fail
  refine (HC.out _).mono ?_
  rintro e w2 ⟨rfl, hb2⟩
  have Hb2 := Lib.hid (below_seq Hb1.out hb2)
  clear hb2 HC Hb1
  go_wp2_with fail
  refine (HP1.out _).mono ?_
  rintro e w3 ⟨rfl, rfl⟩
  clear HP1
  go_wp2_with fail
  refine (HP2.out _).mono ?_
  rintro e w4 ⟨rfl, rfl⟩
  clear HP2
  go_wp2_with fail
  refine (HN1.out _).mono ?_
  rintro e w5 ⟨rfl, hb5⟩
  have Hb5 := Lib.hid (below_seq Hb2.out hb5)
  clear hb5 HN1 Hb2
  go_wp2_with fail
  refine (HN2.out _).mono ?_
  rintro e w6 ⟨rfl, hb6⟩
  have Hb6 := Lib.hid (below_seq Hb5.out hb6)
  clear hb6 HN2 Hb5
  go_wp2_with fail
  refine (HN3.out _).mono ?_
  rintro e w7 ⟨rfl, hb7⟩
  have Hb7 := Lib.hid (below_seq Hb6.out hb7)
  clear hb7 HN3 Hb6
  go_wp2_with fail
  refine (HN4.out _).mono ?_
  rintro e w8 ⟨rfl, hb8⟩
  have Hb8 := Lib.hid (below_seq Hb7.out hb8)
  clear hb8 HN4 Hb7
  go_wp2
  go_ret
  exact ⟨rfl, Hb8.out⟩

theorem own : ownKnob Try.prog.godebug = none := by kernel_rfl
theorem lay : laidOutB Try.prog = true := by kernel_rfl

set_option maxRecDepth 100000 in
theorem lifted (os : Os) (started : os.Started) (H : Type) (enc : TypeId × Value → H) :
    ReturnsInHanded {} Try.checked os 5 .any (Rows.streamCountsSpec.pre6 enc Try.prog Try.f5 Rows.streamCountsRow.domain false) (Rows.streamCountsSpec.post enc Try.prog Try.f5 false true false false) := by
  refine returnsInHanded_of_change_sized (C := Try.checked) own started (by kernel_rfl) Try.func5
    (ChangeSpec.witness6 (enc := enc) (C := Try.checked) false ⟨#[], #[.string ⟨#[]⟩, .int .i64 0, .int .i64 0], []⟩ 8 (by kernel_rfl) (by kernel_rfl) (by kernel_rfl) (by kernel_rfl)) ?_
  intro W base args ds gs before hval0 hW hcnd hsz0 _
  have hval : ∀ (j : Nat) t v, Try.f5.params[j]? = some t → args[j]? = some v → Value.okWide Try.prog W .any base t v := hval0
  have hsz : (DataW.weightsEach Try.prog (Try.f5.params.toList ++ Rows.streamCountsSpec.plain.varTypes Try.prog) (ds ++ gs)).all (· ≤ reachBytes) = true := hsz0
  have hW' := hW
  obtain ⟨p, q, hA0, hV, rfl, hfz, hnd⟩ := hW
  have hA : DataW.TrodAll enc Try.prog W 0 (fun _ => true) true Try.f5.params.toList args.toList ds p := hA0
  rw [Try.params5] at hA hval hsz
  obtain ⟨v0, vs0, d0, ds0, p0, q0, hargs, rfl, rfl, h0, r0⟩ := trodAll_cons hA
  obtain ⟨v1, vs1, d1, ds1, p1, q1, rfl, rfl, rfl, h1, r1⟩ := trodAll_cons r0
  obtain ⟨v2, vs2, d2, ds2, p2, q2, rfl, rfl, rfl, h2, r2⟩ := trodAll_cons r1
  obtain ⟨rfl, rfl, rfl⟩ := trodAll_nil r2
  obtain rfl : args = #[v0, v1, v2] := by cases args; simp_all
  obtain ⟨rfl, rfl⟩ := trodVars_none hV
  obtain ⟨a0, rfl, rfl, rfl, w0⟩ := ChangeMaps.open_string Try.underlying9 (hval 0 9 v0 rfl rfl) h0
  have z0 : a0.size ≤ 140737488351232 := sized_string hsz (j := 0) rfl rfl
  obtain ⟨a1, rfl, rfl, rfl, w1⟩ := open_int Try.underlying3 (hval 1 3 v1 rfl rfl) h1
  obtain ⟨a2, rfl, rfl, rfl, w2⟩ := open_int Try.underlying3 (hval 2 3 v2 rfl rfl) h2
  refine (walk a0 z0 a1 (bounds_i64 w1) a2 (bounds_i64 w2) W).mono fun e W' ⟨he, hg⟩ => ?_
  subst he
  have hts : ∀ t ∈ Try.f5.params.toList, Try.prog.readableRec t = true ∧ t < Try.prog.types.size := by
    rw [Try.params5]
    intro t ht
    simp only [List.mem_cons, List.not_mem_nil, or_false] at ht
    rcases ht with rfl | rfl | rfl <;> exact ⟨by kernel_rfl, of_decide_eq_true (by kernel_rfl)⟩
  exact ⟨_, rfl, post_true lay hts (by kernel_rfl) Try.underlying4 rfl rfl hW' hg⟩

theorem proved : Rows.StreamCountsSaid :=
  OpenClaim.holds_of_wide 5 Try.f5 rfl rfl rfl rfl rfl rfl rfl ⟨rfl, rfl, rfl, rfl, rfl⟩ rfl rfl rfl rfl rfl (by kernel_rfl) Try.func5 (by kernel_rfl)
    (of_decide_eq_true (by kernel_rfl)) (by unfold Func.isWrapper; first | (rw [if_pos (by decide +kernel)]; kernel_rfl) | (rw [if_neg (by decide +kernel)]; exact ⟨rfl, rfl⟩))
    (fun os started H enc _ => lifted os started H enc)
#print axioms proved

end Go.Proofs.Ytgcfaeipiiagdaa.streamCounts
