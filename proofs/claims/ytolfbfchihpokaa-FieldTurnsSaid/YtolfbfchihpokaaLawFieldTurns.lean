/- For every four bytes the law FieldTurns of layer 3 answers true and leaves its argument as it was. No condition. -/
import Derived.Test.YtolfbfchihpokaaFldW
import Derived.Test.YtolfbfchihpokaaFldM
import Derived.Test.YtolfbfchihpokaaOpn
import Derived.Deep.RegionHeld3
namespace Go.Proofs.Ytolfbfchihpokaa.fieldTurns
open Go.ChangeShapes Go.WideShapes Go.ChangeAt Go.RowKit
attribute [local go_sem] eq4

theorem own : ownKnob Try.prog.godebug = none := by kernel_rfl

set_option maxHeartbeats 4000000 in
theorem walk (c0 c1 c2 c3 : Nat) (h0 : c0 < 256) (h1 : c1 < 256) (h2 : c2 < 256) (h3 : c3 < 256) (w : World) :
    Calls Try.prog 6 #[.agg #[U c0, U c1, U c2, U c3]] w fun e w' => e = .returned (.bool true) ∧ Below w.heap.size w w' := by
  obtain ⟨a0, a1, a2, a3, ea⟩ : ∃ a0 a1 a2 a3, Fld.mx [c0, c1, c2, c3] 0 = a0 ∧ Fld.mx [c0, c1, c2, c3] 1 = a1 ∧ Fld.mx [c0, c1, c2, c3] 2 = a2 ∧ Fld.mx [c0, c1, c2, c3] 3 = a3 := ⟨_, _, _, _, rfl, rfl, rfl, rfl⟩
  obtain ⟨b0, b1, b2, b3, eb⟩ : ∃ b0 b1 b2 b3, Fld.mx [a0, a1, a2, a3] 0 = b0 ∧ Fld.mx [a0, a1, a2, a3] 1 = b1 ∧ Fld.mx [a0, a1, a2, a3] 2 = b2 ∧ Fld.mx [a0, a1, a2, a3] 3 = b3 := ⟨_, _, _, _, rfl, rfl, rfl, rfl⟩
  obtain ⟨d0, d1, d2, d3, ed⟩ : ∃ d0 d1 d2 d3, Fld.mx [b0, b1, b2, b3] 0 = d0 ∧ Fld.mx [b0, b1, b2, b3] 1 = d1 ∧ Fld.mx [b0, b1, b2, b3] 2 = d2 ∧ Fld.mx [b0, b1, b2, b3] 3 = d3 := ⟨_, _, _, _, rfl, rfl, rfl, rfl⟩
  have ef := Fld.mix_four h0 h1 h2 h3 ea eb ed
  have la : a0 < 256 ∧ a1 < 256 ∧ a2 < 256 ∧ a3 < 256 := by obtain ⟨rfl, rfl, rfl, rfl⟩ := ea; exact ⟨Fld.mx_lt _ _, Fld.mx_lt _ _, Fld.mx_lt _ _, Fld.mx_lt _ _⟩
  have lb : b0 < 256 ∧ b1 < 256 ∧ b2 < 256 ∧ b3 < 256 := by obtain ⟨rfl, rfl, rfl, rfl⟩ := eb; exact ⟨Fld.mx_lt _ _, Fld.mx_lt _ _, Fld.mx_lt _ _, Fld.mx_lt _ _⟩
  have ld : d0 < 256 ∧ d1 < 256 ∧ d2 < 256 ∧ d3 < 256 := by obtain ⟨rfl, rfl, rfl, rfl⟩ := ed; exact ⟨Fld.mx_lt _ _, Fld.mx_lt _ _, Fld.mx_lt _ _, Fld.mx_lt _ _⟩
  -- the three calls that mix, the fourth, and what is unmixed
  have Hc : ∀ W, Calls Try.prog 13 #[.agg #[U c0, U c1, U c2, U c3]] W fun e w' => e = .returned (.agg #[U a0, U a1, U a2, U a3]) ∧ Below W.heap.size W w' := fun W => by
    have h := Mix_any c0 c1 c2 c3 (Fld.bytes4 h0 h1 h2 h3) W; rw [ea.1, ea.2.1, ea.2.2.1, ea.2.2.2] at h; exact h
  have Ha : ∀ W, Calls Try.prog 13 #[.agg #[U a0, U a1, U a2, U a3]] W fun e w' => e = .returned (.agg #[U b0, U b1, U b2, U b3]) ∧ Below W.heap.size W w' := fun W => by
    have h := Mix_any a0 a1 a2 a3 (Fld.bytes4 la.1 la.2.1 la.2.2.1 la.2.2.2) W; rw [eb.1, eb.2.1, eb.2.2.1, eb.2.2.2] at h; exact h
  have Hb : ∀ W, Calls Try.prog 13 #[.agg #[U b0, U b1, U b2, U b3]] W fun e w' => e = .returned (.agg #[U d0, U d1, U d2, U d3]) ∧ Below W.heap.size W w' := fun W => by
    have h := Mix_any b0 b1 b2 b3 (Fld.bytes4 lb.1 lb.2.1 lb.2.2.1 lb.2.2.2) W; rw [ed.1, ed.2.1, ed.2.2.1, ed.2.2.2] at h; exact h
  have Hd : ∀ W, Calls Try.prog 13 #[.agg #[U d0, U d1, U d2, U d3]] W fun e w' => e = .returned (.agg #[U c0, U c1, U c2, U c3]) ∧ Below W.heap.size W w' := fun W => by
    have h := Mix_any d0 d1 d2 d3 (Fld.bytes4 ld.1 ld.2.1 ld.2.2.1 ld.2.2.2) W; rw [ef.1, ef.2.1, ef.2.2.1, ef.2.2.2] at h; exact h
  have Uc : ∀ W, Calls Try.prog 14 #[.agg #[U c0, U c1, U c2, U c3]] W fun e w' => e = .returned (.agg #[U d0, U d1, U d2, U d3]) ∧ Below W.heap.size W w' := fun W => by
    have h := Unmix_any c0 c1 c2 c3 (Fld.bytes4 h0 h1 h2 h3) W
    have u := Fld.unmix_mix ld.1 ld.2.1 ld.2.2.1 ld.2.2.2
    rw [ef.1, ef.2.1, ef.2.2.1, ef.2.2.2] at u
    rw [u.1, u.2.1, u.2.2.1, u.2.2.2] at h; exact h
  have Ud : ∀ W, Calls Try.prog 14 #[.agg #[U d0, U d1, U d2, U d3]] W fun e w' => e = .returned (.agg #[U b0, U b1, U b2, U b3]) ∧ Below W.heap.size W w' := fun W => by
    have h := Unmix_any d0 d1 d2 d3 (Fld.bytes4 ld.1 ld.2.1 ld.2.2.1 ld.2.2.2) W
    have u := Fld.unmix_mix lb.1 lb.2.1 lb.2.2.1 lb.2.2.2
    rw [ed.1, ed.2.1, ed.2.2.1, ed.2.2.2] at u
    rw [u.1, u.2.1, u.2.2.1, u.2.2.2] at h; exact h
  have Kc := Lib.hid Hc
  have Ka := Lib.hid Ha
  have Kb := Lib.hid Hb
  have Kd := Lib.hid Hd
  have Vc := Lib.hid Uc
  have Vd := Lib.hid Ud
  clear Hc Ha Hb Hd Uc Ud ea eb ed ef la lb ld h0 h1 h2 h3
  go_enter Try.func6, Try.ntmps6
  go_wp2_with fail
  refine (awake3_any _).mono ?_
  rintro e v1 ⟨rfl, g1⟩
  have rc : Row v1 w.heap.size 27 #[U c0, U c1, U c2, U c3] := (Row.new _ _ _).below g1 (by simp)
  obtain ⟨⟨qc0, qc1, qc2, qc3⟩, -⟩ := row_four rc
  have G1 := Lib.hid g1
  have RC := Lib.hid rc
  clear g1 rc
  go_wp2_with fail
  refine (Kc.out _).mono ?_
  clear qc0 qc1 qc2 qc3
  rintro e v2 ⟨rfl, g2⟩
  have ra := Row.new v2 27 #[U a0, U a1, U a2, U a3]
  have rc := ((RC.out.below g2 RC.out.lt).alloc (.cells #[U a0, U a1, U a2, U a3] 27))
  have G2 := Lib.hid g2
  have RA := Lib.hid ra
  clear RC
  have RC := Lib.hid rc
  clear g2 ra rc
  go_wp2_with fail
  refine (Ka.out _).mono ?_
  rintro e v3 ⟨rfl, g3⟩
  have rb := Row.new v3 27 #[U b0, U b1, U b2, U b3]
  have rc := ((RC.out.below g3 RC.out.lt).alloc (.cells #[U b0, U b1, U b2, U b3] 27))
  have G3 := Lib.hid g3
  have RB := Lib.hid rb
  clear RC RA
  have RC := Lib.hid rc
  clear g3 rb rc
  go_wp2_with fail
  refine (Kb.out _).mono ?_
  rintro e v4 ⟨rfl, g4⟩
  have rd := Row.new v4 27 #[U d0, U d1, U d2, U d3]
  have rc := ((RC.out.below g4 RC.out.lt).alloc (.cells #[U d0, U d1, U d2, U d3] 27))
  have rb := ((RB.out.below g4 RB.out.lt).alloc (.cells #[U d0, U d1, U d2, U d3] 27))
  have G4 := Lib.hid g4
  have RD := Lib.hid rd
  clear RC RB
  have RC := Lib.hid rc
  have RB := Lib.hid rb
  clear g4 rc rb rd
  go_wp2_with fail
  obtain ⟨S, hS⟩ : ∃ S : World → Prop, S = (fun w' => Below w.heap.size w w' ∧ w'.cell? ⟨w.heap.size, 0, none⟩ = some (U c0) ∧ w'.cell? ⟨w.heap.size, 1, none⟩ = some (U c1) ∧ w'.cell? ⟨w.heap.size, 2, none⟩ = some (U c2) ∧ w'.cell? ⟨w.heap.size, 3, none⟩ = some (U c3) ∧ w'.cell? ⟨v3.heap.size, 0, none⟩ = some (U b0) ∧ w'.cell? ⟨v3.heap.size, 1, none⟩ = some (U b1) ∧ w'.cell? ⟨v3.heap.size, 2, none⟩ = some (U b2) ∧ w'.cell? ⟨v3.heap.size, 3, none⟩ = some (U b3) ∧ w'.cell? ⟨v4.heap.size, 0, none⟩ = some (U d0) ∧ w'.cell? ⟨v4.heap.size, 1, none⟩ = some (U d1) ∧ w'.cell? ⟨v4.heap.size, 2, none⟩ = some (U d2) ∧ w'.cell? ⟨v4.heap.size, 3, none⟩ = some (U d3)) := ⟨_, rfl⟩
  have hS0 : S (v4.alloc (.cells #[U d0, U d1, U d2, U d3] 27)).drew := by
    subst hS
    have e1 := below_seq ((Below.refl _ w).alloc (Nat.le_refl _) (Obj.cells #[U c0, U c1, U c2, U c3] 27)) (below_seq G1.out (below_seq G2.out ((Below.refl _ v2).alloc (Nat.le_refl _) (Obj.cells #[U a0, U a1, U a2, U a3] 27))))
    have e2 := below_seq e1 (below_seq G3.out ((Below.refl _ v3).alloc (Nat.le_refl _) (Obj.cells #[U b0, U b1, U b2, U b3] 27)))
    have e3 := below_seq e2 (below_seq G4.out ((Below.refl _ v4).alloc (Nat.le_refl _) (Obj.cells #[U d0, U d1, U d2, U d3] 27)))
    exact ⟨e3.drew, RC.out.cell 0, RC.out.cell 1, RC.out.cell 2, RC.out.cell 3, RB.out.cell 0, RB.out.cell 1, RB.out.cell 2, RB.out.cell 3, RD.out.cell 0, RD.out.cell 1, RD.out.cell 2, RD.out.cell 3⟩
  have hSnext : ∀ W w1, Below W.heap.size W w1 → S W → S w1 := by
    subst hS
    rintro W w1 hb ⟨kb, k0, k1, k2, k3, k4, k5, k6, k7, k8, k9, k10, k11⟩
    exact ⟨below_seq kb hb, cell_below hb k0, cell_below hb k1, cell_below hb k2, cell_below hb k3, cell_below hb k4, cell_below hb k5, cell_below hb k6, cell_below hb k7, cell_below hb k8, cell_below hb k9, cell_below hb k10, cell_below hb k11⟩
  have hSb : ∀ W, S W → Below w.heap.size w W := by
    subst hS
    exact fun _ h => h.1
  subst hS
  have HSb := Lib.hid hSb
  clear hSb
  have HS0 := Lib.hid hS0
  have HSn := Lib.hid hSnext
  clear hS0 hSnext
  go_region_held3 (fun w' => Below w.heap.size w w' ∧ w'.cell? ⟨w.heap.size, 0, none⟩ = some (U c0) ∧ w'.cell? ⟨w.heap.size, 1, none⟩ = some (U c1) ∧ w'.cell? ⟨w.heap.size, 2, none⟩ = some (U c2) ∧ w'.cell? ⟨w.heap.size, 3, none⟩ = some (U c3) ∧ w'.cell? ⟨v3.heap.size, 0, none⟩ = some (U b0) ∧ w'.cell? ⟨v3.heap.size, 1, none⟩ = some (U b1) ∧ w'.cell? ⟨v3.heap.size, 2, none⟩ = some (U b2) ∧ w'.cell? ⟨v3.heap.size, 3, none⟩ = some (U b3) ∧ w'.cell? ⟨v4.heap.size, 0, none⟩ = some (U d0) ∧ w'.cell? ⟨v4.heap.size, 1, none⟩ = some (U d1) ∧ w'.cell? ⟨v4.heap.size, 2, none⟩ = some (U d2) ∧ w'.cell? ⟨v4.heap.size, 3, none⟩ = some (U d3)) (first | exact HS0.out | (exact HSn.out _ _ (by assumption) (by assumption)))
    (first | (go_at_call 13; refine (Kd.out _).mono ?_; rintro e w1 ⟨rfl, hb⟩) | (go_at_call_of 14 (Value.agg #[U c0, U c1, U c2, U c3]); refine (Vc.out _).mono ?_; rintro e w1 ⟨rfl, hb⟩) | (go_at_call 14; refine (Vd.out _).mono ?_; rintro e w1 ⟨rfl, hb⟩))
  go_wp2
  go_ret
  exact ⟨rfl, HSb.out _ (by assumption)⟩

set_option maxRecDepth 100000 in
theorem lifted (os : Os) (started : os.Started) (H : Type) (enc : TypeId × Value → H) :
    ReturnsInHanded {} Try.checked os 6 .any (Rows.fieldTurnsSpec.pre6 enc Try.prog Try.f6 Rows.fieldTurnsRow.domain false) (Rows.fieldTurnsSpec.post enc Try.prog Try.f6 false true false false) := by
  refine returnsInHanded_of_change (C := Try.checked) own started (by kernel_rfl) Try.func6
    (ChangeSpec.witness6 (enc := enc) (C := Try.checked) false ⟨#[], #[.agg #[.int .u8 0, .int .u8 0, .int .u8 0, .int .u8 0]], []⟩ 8 (by kernel_rfl) (by kernel_rfl) (by kernel_rfl) (by kernel_rfl)) ?_
  intro W base args ds gs before hval0 hW hcnd _
  have hval : ∀ (j : Nat) t v, Try.f6.params[j]? = some t → args[j]? = some v → Value.okWide Try.prog W .any base t v := hval0
  have hW' := hW
  obtain ⟨p, q, hA0, hV, rfl, hfz, hnd⟩ := hW
  have hA : DataW.TrodAll enc Try.prog W 0 (fun _ => true) true Try.f6.params.toList args.toList ds p := hA0
  rw [Try.params6] at hA hval
  obtain ⟨v0, vs0, d0, ds0, p0, q0, hargs, rfl, rfl, h0, r0⟩ := trodAll_cons hA
  obtain ⟨rfl, rfl, rfl⟩ := trodAll_nil r0
  obtain rfl : args = #[v0] := by cases args; simp_all
  obtain ⟨rfl, rfl⟩ := trodVars_none hV
  obtain ⟨x00, x01, x02, x03, rfl, rfl, rfl, l00, l01, l02, l03⟩ := open_b4 Try.underlying27 Try.underlying5 (by kernel_rfl) (by kernel_rfl) (hval 0 27 v0 rfl rfl) h0
  clear hA0 hval0
  simp only [List.append_nil] at hW'
  refine (walk x00 x01 x02 x03 l00 l01 l02 l03 W).mono fun e W' ⟨he, hg⟩ => ?_
  subst he
  exact ⟨_, rfl, post_law rfl hW' hg (fun _ _ _ => (trodAll_cons_mk (shut_bool Try.underlying4 _) trodAll_mk0)) (fun sp _ => (trodAll_cons_mk (shut_b4 Try.underlying27 Try.underlying5 (by kernel_rfl) (by kernel_rfl) l00 l01 l02 l03) trodAll_mk0)) (fun _ => rfl) rfl
    (ok_one (by kernel_rfl) rfl (okWide_bool_mk Try.underlying4 _))⟩

theorem proved : Rows.FieldTurnsSaid :=
  OpenClaim.holds_of_wide 6 Try.f6 rfl rfl rfl rfl rfl rfl rfl ⟨rfl, rfl, rfl, rfl, rfl⟩ rfl rfl rfl rfl rfl (by kernel_rfl) Try.func6 (by kernel_rfl)
    (of_decide_eq_true (by kernel_rfl)) (by unfold Func.isWrapper; first | (rw [if_pos (by decide +kernel)]; kernel_rfl) | (rw [if_neg (by decide +kernel)]; exact ⟨rfl, rfl⟩))
    (fun os started H enc _ => lifted os started H enc)
#print axioms proved

end Go.Proofs.Ytolfbfchihpokaa.fieldTurns
