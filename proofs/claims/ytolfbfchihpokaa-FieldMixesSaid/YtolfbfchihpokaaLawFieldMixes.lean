/- For every two times four bytes and a byte the law FieldMixes of layer 3 answers true and leaves its arguments as they were. No condition. -/
import Derived.Test.YtolfbfchihpokaaFldW
import Derived.Test.YtolfbfchihpokaaFldM
import Derived.Test.YtolfbfchihpokaaOpn
import Derived.Deep.RegionHeld3
namespace Go.Proofs.Ytolfbfchihpokaa.fieldMixes
open Go.ChangeShapes Go.WideShapes Go.ChangeAt Go.RowKit
attribute [local go_sem] eq4

theorem own : ownKnob Try.prog.godebug = none := by kernel_rfl

set_option maxRecDepth 100000 in
set_option maxHeartbeats 8000000 in
theorem walk (c0 c1 c2 c3 : Nat) (hc0 : c0 < 256) (hc1 : c1 < 256) (hc2 : c2 < 256) (hc3 : c3 < 256) (d0 d1 d2 d3 : Nat) (hd0 : d0 < 256) (hd1 : d1 < 256) (hd2 : d2 < 256) (hd3 : d3 < 256) (a : Nat) (ha : a < 256) (w : World) :
    Calls Try.prog 5 #[.agg #[U c0, U c1, U c2, U c3], .agg #[U d0, U d1, U d2, U d3], U a] w fun e w' => e = .returned (.bool true) ∧ Below w.heap.size w w' := by
  obtain ⟨m0, m1, m2, m3, em⟩ : ∃ m0 m1 m2 m3, Fld.mx [c0, c1, c2, c3] 0 = m0 ∧ Fld.mx [c0, c1, c2, c3] 1 = m1 ∧ Fld.mx [c0, c1, c2, c3] 2 = m2 ∧ Fld.mx [c0, c1, c2, c3] 3 = m3 := ⟨_, _, _, _, rfl, rfl, rfl, rfl⟩
  obtain ⟨n0, n1, n2, n3, en⟩ : ∃ n0 n1 n2 n3, Fld.mx [d0, d1, d2, d3] 0 = n0 ∧ Fld.mx [d0, d1, d2, d3] 1 = n1 ∧ Fld.mx [d0, d1, d2, d3] 2 = n2 ∧ Fld.mx [d0, d1, d2, d3] 3 = n3 := ⟨_, _, _, _, rfl, rfl, rfl, rfl⟩
  obtain ⟨u0, u1, u2, u3, eu⟩ : ∃ u0 u1 u2 u3, Fld.ux [c0, c1, c2, c3] 0 = u0 ∧ Fld.ux [c0, c1, c2, c3] 1 = u1 ∧ Fld.ux [c0, c1, c2, c3] 2 = u2 ∧ Fld.ux [c0, c1, c2, c3] 3 = u3 := ⟨_, _, _, _, rfl, rfl, rfl, rfl⟩
  have lm : m0 < 256 ∧ m1 < 256 ∧ m2 < 256 ∧ m3 < 256 := by obtain ⟨rfl, rfl, rfl, rfl⟩ := em; exact ⟨Fld.mx_lt _ _, Fld.mx_lt _ _, Fld.mx_lt _ _, Fld.mx_lt _ _⟩
  have ln : n0 < 256 ∧ n1 < 256 ∧ n2 < 256 ∧ n3 < 256 := by obtain ⟨rfl, rfl, rfl, rfl⟩ := en; exact ⟨Fld.mx_lt _ _, Fld.mx_lt _ _, Fld.mx_lt _ _, Fld.mx_lt _ _⟩
  have lu : u0 < 256 ∧ u1 < 256 ∧ u2 < 256 ∧ u3 < 256 := by obtain ⟨rfl, rfl, rfl, rfl⟩ := eu; exact ⟨Fld.ux_lt _ _, Fld.ux_lt _ _, Fld.ux_lt _ _, Fld.ux_lt _ _⟩
  have Hm : ∀ W, Calls Try.prog 13 #[.agg #[U c0, U c1, U c2, U c3]] W fun e w' => e = .returned (.agg #[U m0, U m1, U m2, U m3]) ∧ Below W.heap.size W w' := fun W => by
    have h := Mix_any c0 c1 c2 c3 (Fld.bytes4 hc0 hc1 hc2 hc3) W; rw [em.1, em.2.1, em.2.2.1, em.2.2.2] at h; exact h
  have Hn : ∀ W, Calls Try.prog 13 #[.agg #[U d0, U d1, U d2, U d3]] W fun e w' => e = .returned (.agg #[U n0, U n1, U n2, U n3]) ∧ Below W.heap.size W w' := fun W => by
    have h := Mix_any d0 d1 d2 d3 (Fld.bytes4 hd0 hd1 hd2 hd3) W; rw [en.1, en.2.1, en.2.2.1, en.2.2.2] at h; exact h
  have Hs : ∀ W, Calls Try.prog 13 #[.agg #[U (c0 ^^^ d0), U (c1 ^^^ d1), U (c2 ^^^ d2), U (c3 ^^^ d3)]] W fun e w' => e = .returned (.agg #[U (m0 ^^^ n0), U (m1 ^^^ n1), U (m2 ^^^ n2), U (m3 ^^^ n3)]) ∧ Below W.heap.size W w' := fun W => by
    have h := Mix_any (c0 ^^^ d0) (c1 ^^^ d1) (c2 ^^^ d2) (c3 ^^^ d3) (Fld.bytes4 (Nat.xor_lt_two_pow (n := 8) hc0 hd0) (Nat.xor_lt_two_pow (n := 8) hc1 hd1) (Nat.xor_lt_two_pow (n := 8) hc2 hd2) (Nat.xor_lt_two_pow (n := 8) hc3 hd3)) W
    obtain ⟨z0, z1, z2, z3⟩ := Fld.mx_xor c0 c1 c2 c3 d0 d1 d2 d3
    rw [z0, z1, z2, z3, em.1, em.2.1, em.2.2.1, em.2.2.2, en.1, en.2.1, en.2.2.1, en.2.2.2] at h; exact h
  have Ht : ∀ W, Calls Try.prog 13 #[.agg #[U c1, U c2, U c3, U c0]] W fun e w' => e = .returned (.agg #[U m1, U m2, U m3, U m0]) ∧ Below W.heap.size W w' := fun W => by
    have h := Mix_any c1 c2 c3 c0 (Fld.bytes4 hc1 hc2 hc3 hc0) W
    obtain ⟨z0, z1, z2, z3⟩ := Fld.mx_turn c0 c1 c2 c3
    rw [z0, z1, z2, z3, em.1, em.2.1, em.2.2.1, em.2.2.2] at h; exact h
  have Um : ∀ W, Calls Try.prog 14 #[.agg #[U m0, U m1, U m2, U m3]] W fun e w' => e = .returned (.agg #[U c0, U c1, U c2, U c3]) ∧ Below W.heap.size W w' := fun W => by
    have h := Unmix_any m0 m1 m2 m3 (Fld.bytes4 lm.1 lm.2.1 lm.2.2.1 lm.2.2.2) W
    have z := Fld.unmix_mix hc0 hc1 hc2 hc3
    rw [em.1, em.2.1, em.2.2.1, em.2.2.2] at z
    rw [z.1, z.2.1, z.2.2.1, z.2.2.2] at h; exact h
  have Uc : ∀ W, Calls Try.prog 14 #[.agg #[U c0, U c1, U c2, U c3]] W fun e w' => e = .returned (.agg #[U u0, U u1, U u2, U u3]) ∧ Below W.heap.size W w' := fun W => by
    have h := Unmix_any c0 c1 c2 c3 (Fld.bytes4 hc0 hc1 hc2 hc3) W; rw [eu.1, eu.2.1, eu.2.2.1, eu.2.2.2] at h; exact h
  have Hu : ∀ W, Calls Try.prog 13 #[.agg #[U u0, U u1, U u2, U u3]] W fun e w' => e = .returned (.agg #[U c0, U c1, U c2, U c3]) ∧ Below W.heap.size W w' := fun W => by
    have h := Mix_any u0 u1 u2 u3 (Fld.bytes4 lu.1 lu.2.1 lu.2.2.1 lu.2.2.2) W
    have z := Fld.mix_unmix hc0 hc1 hc2 hc3
    rw [eu.1, eu.2.1, eu.2.2.1, eu.2.2.2] at z
    rw [z.1, z.2.1, z.2.2.1, z.2.2.2] at h; exact h
  have Ha : ∀ W, Calls Try.prog 13 #[.agg #[U a, U a, U a, U a]] W fun e w' => e = .returned (.agg #[U a, U a, U a, U a]) ∧ Below W.heap.size W w' := fun W => by
    have h := Mix_any a a a a (Fld.bytes4 ha ha ha ha) W
    obtain ⟨z0, z1, z2, z3⟩ := Fld.mx_eq a a a a
    have z := Fld.m_same a ha
    rw [z0, z1, z2, z3, z] at h; exact h
  have hx0 : bits BinOp.xor IntKind.u8 (c0 : Int) (d0 : Int) = ((c0 ^^^ d0 : Nat) : Int) := u8_xor_nat _ _ hc0 hd0
  have hy0 : bits BinOp.xor IntKind.u8 (m0 : Int) (n0 : Int) = ((m0 ^^^ n0 : Nat) : Int) := u8_xor_nat _ _ lm.1 ln.1
  have hx1 : bits BinOp.xor IntKind.u8 (c1 : Int) (d1 : Int) = ((c1 ^^^ d1 : Nat) : Int) := u8_xor_nat _ _ hc1 hd1
  have hy1 : bits BinOp.xor IntKind.u8 (m1 : Int) (n1 : Int) = ((m1 ^^^ n1 : Nat) : Int) := u8_xor_nat _ _ lm.2.1 ln.2.1
  have hx2 : bits BinOp.xor IntKind.u8 (c2 : Int) (d2 : Int) = ((c2 ^^^ d2 : Nat) : Int) := u8_xor_nat _ _ hc2 hd2
  have hy2 : bits BinOp.xor IntKind.u8 (m2 : Int) (n2 : Int) = ((m2 ^^^ n2 : Nat) : Int) := u8_xor_nat _ _ lm.2.2.1 ln.2.2.1
  have hx3 : bits BinOp.xor IntKind.u8 (c3 : Int) (d3 : Int) = ((c3 ^^^ d3 : Nat) : Int) := u8_xor_nat _ _ hc3 hd3
  have hy3 : bits BinOp.xor IntKind.u8 (m3 : Int) (n3 : Int) = ((m3 ^^^ n3 : Nat) : Int) := u8_xor_nat _ _ lm.2.2.2 ln.2.2.2
  have KHm := Lib.hid Hm
  have KHn := Lib.hid Hn
  have KHs := Lib.hid Hs
  have KHt := Lib.hid Ht
  have KUm := Lib.hid Um
  have KUc := Lib.hid Uc
  have KHu := Lib.hid Hu
  have KHa := Lib.hid Ha
  clear Hm Hn Hs Ht Um Uc Hu Ha em en eu lm ln lu hc0 hc1 hc2 hc3 hd0 hd1 hd2 hd3 ha
  go_enter Try.func5, Try.ntmps5
  go_wp2_with fail
  refine (awake3_any _).mono ?_
  rintro e v1 ⟨rfl, g1⟩
  have G1 := Lib.hid g1
  have rc : Row v1 w.heap.size 27 #[U c0, U c1, U c2, U c3] := ((Row.new _ _ _).alloc _).below g1 (by simp; omega)
  have rd : Row v1 (w.heap.size + 1) 27 #[U d0, U d1, U d2, U d3] := by
    have h := Row.new (w.alloc (.cells #[U c0, U c1, U c2, U c3] 27)) 27 #[U d0, U d1, U d2, U d3]
    rw [World.size_alloc] at h
    exact h.below g1 (by simp)
  have Rc := Lib.hid rc
  have Rd := Lib.hid rd
  obtain ⟨⟨qc0, qc1, qc2, qc3⟩, -⟩ := row_four rc
  clear g1 rc rd
  go_wp2_with fail
  clear qc0 qc1 qc2 qc3
  refine (KHm.out _).mono ?_
  rintro e v2 ⟨rfl, g2⟩
  have G2 := Lib.hid g2
  have rc := ((Rc.out.below g2 Rc.out.lt).alloc (.cells #[U m0, U m1, U m2, U m3] 27))
  have rd := ((Rd.out.below g2 Rd.out.lt).alloc (.cells #[U m0, U m1, U m2, U m3] 27))
  have rm := Row.new v2 27 #[U m0, U m1, U m2, U m3]
  clear Rc Rd
  have Rc := Lib.hid rc
  have Rd := Lib.hid rd
  have Rm := Lib.hid rm
  obtain ⟨⟨qd0, qd1, qd2, qd3⟩, -⟩ := row_four rd
  clear g2 rc rd rm
  go_wp2_with fail
  clear qd0 qd1 qd2 qd3
  refine (KHn.out _).mono ?_
  rintro e v3 ⟨rfl, g3⟩
  have G3 := Lib.hid g3
  have rc := ((Rc.out.below g3 Rc.out.lt).alloc (.cells #[U n0, U n1, U n2, U n3] 27))
  have rd := ((Rd.out.below g3 Rd.out.lt).alloc (.cells #[U n0, U n1, U n2, U n3] 27))
  have rm := ((Rm.out.below g3 Rm.out.lt).alloc (.cells #[U n0, U n1, U n2, U n3] 27))
  have rn := Row.new v3 27 #[U n0, U n1, U n2, U n3]
  clear Rc Rd Rm
  have Rc := Lib.hid rc
  have Rd := Lib.hid rd
  have Rm := Lib.hid rm
  have Rn := Lib.hid rn
  obtain ⟨⟨qc0, qc1, qc2, qc3⟩, -⟩ := row_four rc
  obtain ⟨⟨qd0, qd1, qd2, qd3⟩, -⟩ := row_four rd
  clear g3 rc rd rm rn
  go_wp2_with fail
  clear qc0 qc1 qc2 qc3 qd0 qd1 qd2 qd3
  refine (KHs.out _).mono ?_
  rintro e v4 ⟨rfl, g4⟩
  have G4 := Lib.hid g4
  have rc := ((Rc.out.below g4 Rc.out.lt).alloc (.cells #[U (m0 ^^^ n0), U (m1 ^^^ n1), U (m2 ^^^ n2), U (m3 ^^^ n3)] 27))
  have rd := ((Rd.out.below g4 Rd.out.lt).alloc (.cells #[U (m0 ^^^ n0), U (m1 ^^^ n1), U (m2 ^^^ n2), U (m3 ^^^ n3)] 27))
  have rm := ((Rm.out.below g4 Rm.out.lt).alloc (.cells #[U (m0 ^^^ n0), U (m1 ^^^ n1), U (m2 ^^^ n2), U (m3 ^^^ n3)] 27))
  have rn := ((Rn.out.below g4 Rn.out.lt).alloc (.cells #[U (m0 ^^^ n0), U (m1 ^^^ n1), U (m2 ^^^ n2), U (m3 ^^^ n3)] 27))
  have rs := Row.new v4 27 #[U (m0 ^^^ n0), U (m1 ^^^ n1), U (m2 ^^^ n2), U (m3 ^^^ n3)]
  clear Rc Rd Rm Rn
  have Rc := Lib.hid rc
  have Rd := Lib.hid rd
  have Rm := Lib.hid rm
  have Rn := Lib.hid rn
  have Rs := Lib.hid rs
  obtain ⟨⟨qc0, qc1, qc2, qc3⟩, -⟩ := row_four rc
  clear g4 rc rd rm rn rs
  go_wp2_with fail
  clear qc0 qc1 qc2 qc3
  refine (KHt.out _).mono ?_
  rintro e v5 ⟨rfl, g5⟩
  have G5 := Lib.hid g5
  have rc := ((Rc.out.below g5 Rc.out.lt).alloc (.cells #[U m1, U m2, U m3, U m0] 27))
  have rd := ((Rd.out.below g5 Rd.out.lt).alloc (.cells #[U m1, U m2, U m3, U m0] 27))
  have rm := ((Rm.out.below g5 Rm.out.lt).alloc (.cells #[U m1, U m2, U m3, U m0] 27))
  have rn := ((Rn.out.below g5 Rn.out.lt).alloc (.cells #[U m1, U m2, U m3, U m0] 27))
  have rs := ((Rs.out.below g5 Rs.out.lt).alloc (.cells #[U m1, U m2, U m3, U m0] 27))
  have rt := Row.new v5 27 #[U m1, U m2, U m3, U m0]
  clear Rc Rd Rm Rn Rs
  have Rc := Lib.hid rc
  have Rd := Lib.hid rd
  have Rm := Lib.hid rm
  have Rn := Lib.hid rn
  have Rs := Lib.hid rs
  have Rt := Lib.hid rt
  clear g5 rc rd rm rn rs rt
  go_wp2_with fail
  obtain ⟨S, hS⟩ : ∃ S : World → Prop, S = (fun w' => Below w.heap.size w w' ∧ w'.cell? ⟨w.heap.size, 0, none⟩ = some (U c0) ∧ w'.cell? ⟨w.heap.size, 1, none⟩ = some (U c1) ∧ w'.cell? ⟨w.heap.size, 2, none⟩ = some (U c2) ∧ w'.cell? ⟨w.heap.size, 3, none⟩ = some (U c3) ∧ w'.cell? ⟨v4.heap.size, 0, none⟩ = some (U (m0 ^^^ n0)) ∧ w'.cell? ⟨v4.heap.size, 1, none⟩ = some (U (m1 ^^^ n1)) ∧ w'.cell? ⟨v4.heap.size, 2, none⟩ = some (U (m2 ^^^ n2)) ∧ w'.cell? ⟨v4.heap.size, 3, none⟩ = some (U (m3 ^^^ n3)) ∧ w'.cell? ⟨v2.heap.size, 0, none⟩ = some (U m0) ∧ w'.cell? ⟨v2.heap.size, 1, none⟩ = some (U m1) ∧ w'.cell? ⟨v2.heap.size, 2, none⟩ = some (U m2) ∧ w'.cell? ⟨v2.heap.size, 3, none⟩ = some (U m3) ∧ w'.cell? ⟨v3.heap.size, 0, none⟩ = some (U n0) ∧ w'.cell? ⟨v3.heap.size, 1, none⟩ = some (U n1) ∧ w'.cell? ⟨v3.heap.size, 2, none⟩ = some (U n2) ∧ w'.cell? ⟨v3.heap.size, 3, none⟩ = some (U n3) ∧ w'.cell? ⟨v5.heap.size, 0, none⟩ = some (U m1) ∧ w'.cell? ⟨v5.heap.size, 1, none⟩ = some (U m2) ∧ w'.cell? ⟨v5.heap.size, 2, none⟩ = some (U m3) ∧ w'.cell? ⟨v5.heap.size, 3, none⟩ = some (U m0)) := ⟨_, rfl⟩
  have hS0 : S (v5.alloc (Obj.cells #[U m1, U m2, U m3, U m0] 27)).drew := by
    subst hS
    have e1 := below_seq (((Below.refl _ w).alloc (Nat.le_refl _) (Obj.cells #[U c0, U c1, U c2, U c3] 27)).alloc (by simp) (Obj.cells #[U d0, U d1, U d2, U d3] 27)) (below_seq G1.out (below_seq G2.out ((Below.refl _ v2).alloc (Nat.le_refl _) (Obj.cells #[U m0, U m1, U m2, U m3] 27))))
    have e2 := below_seq e1 (below_seq G3.out ((Below.refl _ v3).alloc (Nat.le_refl _) (Obj.cells #[U n0, U n1, U n2, U n3] 27)))
    have e3 := below_seq e2 (below_seq G4.out ((Below.refl _ v4).alloc (Nat.le_refl _) (Obj.cells #[U (m0 ^^^ n0), U (m1 ^^^ n1), U (m2 ^^^ n2), U (m3 ^^^ n3)] 27)))
    have e4 := below_seq e3 (below_seq G5.out ((Below.refl _ v5).alloc (Nat.le_refl _) (Obj.cells #[U m1, U m2, U m3, U m0] 27)))
    exact ⟨e4.drew, Rc.out.cell 0, Rc.out.cell 1, Rc.out.cell 2, Rc.out.cell 3, Rs.out.cell 0, Rs.out.cell 1, Rs.out.cell 2, Rs.out.cell 3, Rm.out.cell 0, Rm.out.cell 1, Rm.out.cell 2, Rm.out.cell 3, Rn.out.cell 0, Rn.out.cell 1, Rn.out.cell 2, Rn.out.cell 3, Rt.out.cell 0, Rt.out.cell 1, Rt.out.cell 2, Rt.out.cell 3⟩
  have hSnext : ∀ W w1, Below W.heap.size W w1 → S W → S w1 := by
    subst hS
    rintro W w1 hb ⟨kb, k0, k1, k2, k3, k4, k5, k6, k7, k8, k9, k10, k11, k12, k13, k14, k15, k16, k17, k18, k19⟩
    exact ⟨below_seq kb hb, cell_below hb k0, cell_below hb k1, cell_below hb k2, cell_below hb k3, cell_below hb k4, cell_below hb k5, cell_below hb k6, cell_below hb k7, cell_below hb k8, cell_below hb k9, cell_below hb k10, cell_below hb k11, cell_below hb k12, cell_below hb k13, cell_below hb k14, cell_below hb k15, cell_below hb k16, cell_below hb k17, cell_below hb k18, cell_below hb k19⟩
  have hSb : ∀ W, S W → Below w.heap.size w W := by
    subst hS
    exact fun _ h => h.1
  subst hS
  have HSb := Lib.hid hSb
  have HS0 := Lib.hid hS0
  have HSn := Lib.hid hSnext
  clear hSb hS0 hSnext
  clear Rc Rd Rm Rn Rs Rt
  simp only [List.append_eq, List.cons_append, List.nil_append]
  go_region_held3 (fun w' => Below w.heap.size w w' ∧ w'.cell? ⟨w.heap.size, 0, none⟩ = some (U c0) ∧ w'.cell? ⟨w.heap.size, 1, none⟩ = some (U c1) ∧ w'.cell? ⟨w.heap.size, 2, none⟩ = some (U c2) ∧ w'.cell? ⟨w.heap.size, 3, none⟩ = some (U c3) ∧ w'.cell? ⟨v4.heap.size, 0, none⟩ = some (U (m0 ^^^ n0)) ∧ w'.cell? ⟨v4.heap.size, 1, none⟩ = some (U (m1 ^^^ n1)) ∧ w'.cell? ⟨v4.heap.size, 2, none⟩ = some (U (m2 ^^^ n2)) ∧ w'.cell? ⟨v4.heap.size, 3, none⟩ = some (U (m3 ^^^ n3)) ∧ w'.cell? ⟨v2.heap.size, 0, none⟩ = some (U m0) ∧ w'.cell? ⟨v2.heap.size, 1, none⟩ = some (U m1) ∧ w'.cell? ⟨v2.heap.size, 2, none⟩ = some (U m2) ∧ w'.cell? ⟨v2.heap.size, 3, none⟩ = some (U m3) ∧ w'.cell? ⟨v3.heap.size, 0, none⟩ = some (U n0) ∧ w'.cell? ⟨v3.heap.size, 1, none⟩ = some (U n1) ∧ w'.cell? ⟨v3.heap.size, 2, none⟩ = some (U n2) ∧ w'.cell? ⟨v3.heap.size, 3, none⟩ = some (U n3) ∧ w'.cell? ⟨v5.heap.size, 0, none⟩ = some (U m1) ∧ w'.cell? ⟨v5.heap.size, 1, none⟩ = some (U m2) ∧ w'.cell? ⟨v5.heap.size, 2, none⟩ = some (U m3) ∧ w'.cell? ⟨v5.heap.size, 3, none⟩ = some (U m0)) (first | exact HS0.out | (exact HSn.out _ _ (by assumption) (by assumption)))
    (first | (go_at_call_of 14 (Value.agg #[U m0, U m1, U m2, U m3]); refine (KUm.out _).mono ?_; rintro e w1 ⟨rfl, hb⟩) | (go_at_call_of 14 (Value.agg #[U c0, U c1, U c2, U c3]); refine (KUc.out _).mono ?_; rintro e w1 ⟨rfl, hb⟩) | (go_at_call_of 13 (Value.agg #[U u0, U u1, U u2, U u3]); refine (KHu.out _).mono ?_; rintro e w1 ⟨rfl, hb⟩) | (go_at_call_of 13 (Value.agg #[U a, U a, U a, U a]); refine (KHa.out _).mono ?_; rintro e w1 ⟨rfl, hb⟩))
  go_wp2
  go_ret
  exact ⟨rfl, HSb.out _ (by assumption)⟩

set_option maxRecDepth 100000 in
theorem lifted (os : Os) (started : os.Started) (H : Type) (enc : TypeId × Value → H) :
    ReturnsInHanded {} Try.checked os 5 .any (Rows.fieldMixesSpec.pre6 enc Try.prog Try.f5 Rows.fieldMixesRow.domain false) (Rows.fieldMixesSpec.post enc Try.prog Try.f5 false true false false) := by
  refine returnsInHanded_of_change (C := Try.checked) own started (by kernel_rfl) Try.func5
    (ChangeSpec.witness6 (enc := enc) (C := Try.checked) false ⟨#[], #[.agg #[.int .u8 0, .int .u8 0, .int .u8 0, .int .u8 0], .agg #[.int .u8 0, .int .u8 0, .int .u8 0, .int .u8 0], .int .u8 0], []⟩ 8 (by kernel_rfl) (by kernel_rfl) (by kernel_rfl) (by kernel_rfl)) ?_
  intro W base args ds gs before hval0 hW hcnd _
  have hval : ∀ (j : Nat) t v, Try.f5.params[j]? = some t → args[j]? = some v → Value.okWide Try.prog W .any base t v := hval0
  have hW' := hW
  obtain ⟨p, q, hA0, hV, rfl, hfz, hnd⟩ := hW
  have hA : DataW.TrodAll enc Try.prog W 0 (fun _ => true) true Try.f5.params.toList args.toList ds p := hA0
  rw [Try.params5] at hA hval
  obtain ⟨v0, vs0, d0, ds0, p0, q0, hargs, rfl, rfl, h0, r0⟩ := trodAll_cons hA
  obtain ⟨v1, vs1, d1, ds1, p1, q1, rfl, rfl, rfl, h1, r1⟩ := trodAll_cons r0
  obtain ⟨v2, vs2, d2, ds2, p2, q2, rfl, rfl, rfl, h2, r2⟩ := trodAll_cons r1
  obtain ⟨rfl, rfl, rfl⟩ := trodAll_nil r2
  obtain rfl : args = #[v0, v1, v2] := by cases args; simp_all
  obtain ⟨rfl, rfl⟩ := trodVars_none hV
  obtain ⟨x00, x01, x02, x03, rfl, rfl, rfl, l00, l01, l02, l03⟩ := open_b4 Try.underlying27 Try.underlying5 (by kernel_rfl) (by kernel_rfl) (hval 0 27 v0 rfl rfl) h0
  obtain ⟨x10, x11, x12, x13, rfl, rfl, rfl, l10, l11, l12, l13⟩ := open_b4 Try.underlying27 Try.underlying5 (by kernel_rfl) (by kernel_rfl) (hval 1 27 v1 rfl rfl) h1
  obtain ⟨a2, rfl, rfl, rfl, w2⟩ := open_int Try.underlying5 (hval 2 5 v2 rfl rfl) h2
  have b2 := bounds_u8 w2
  obtain ⟨a2, rfl⟩ := Int.eq_ofNat_of_zero_le b2.1
  have l2 : a2 < 256 := by omega
  clear hA0 hval0
  simp only [List.append_nil] at hW'
  refine (walk x00 x01 x02 x03 l00 l01 l02 l03 x10 x11 x12 x13 l10 l11 l12 l13 a2 l2 W).mono fun e W' ⟨he, hg⟩ => ?_
  subst he
  exact ⟨_, rfl, post_law rfl hW' hg (fun _ _ _ => (trodAll_cons_mk (shut_bool Try.underlying4 _) trodAll_mk0)) (fun sp _ => (trodAll_cons_mk (shut_b4 Try.underlying27 Try.underlying5 (by kernel_rfl) (by kernel_rfl) l00 l01 l02 l03) (trodAll_cons_mk (shut_b4 Try.underlying27 Try.underlying5 (by kernel_rfl) (by kernel_rfl) l10 l11 l12 l13) (trodAll_cons_mk (shut_int Try.underlying5 w2) trodAll_mk0)))) (fun _ => rfl) rfl
    (ok_one (by kernel_rfl) rfl (okWide_bool_mk Try.underlying4 _))⟩

theorem proved : Rows.FieldMixesSaid :=
  OpenClaim.holds_of_wide 5 Try.f5 rfl rfl rfl rfl rfl rfl rfl ⟨rfl, rfl, rfl, rfl, rfl⟩ rfl rfl rfl rfl rfl (by kernel_rfl) Try.func5 (by kernel_rfl)
    (of_decide_eq_true (by kernel_rfl)) (by unfold Func.isWrapper; first | (rw [if_pos (by decide +kernel)]; kernel_rfl) | (rw [if_neg (by decide +kernel)]; exact ⟨rfl, rfl⟩))
    (fun os started H enc _ => lifted os started H enc)
#print axioms proved

end Go.Proofs.Ytolfbfchihpokaa.fieldMixes
