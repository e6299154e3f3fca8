/-
  Several texts in one: LawOracleAsks.
-/
import Derived.Test.YtjnolopnkecmdaaGreatOD
import Derived.Test.YtjnolopnkecmdaaGreatAskPK
import Derived.Test.YtjnolopnkecmdaaGreatWA
import Derived.Test.YtjnolopnkecmdaaGreatGG
import Derived.Deep.CutRange
import Derived.Deep.RegionWith
import Derived.HandedShaped

/- For all texts, epochs and counts the law OracleAsks of layer 9 answers true and leaves its arguments as they were. Condition: none (whatever words the variable digest.round holds). -/
namespace Go.Proofs.YtjnolopnkecmdaaGreat.oracleAsks
open Go.ChangeShapes Go.WideShapes Go.ChangeAt Go.RowKit Go.WideMaps

theorem part_int (cs : Array Value) (j : Nat) (v : Value) (h : cs[j]? = some v) (w : World) : (part 3 cs j).run Tryz.prog w = .ok v w := by
  have hagg : (isAgg 3).run Tryz.prog w = .ok false w := by
    unfold isAgg
    rw [Sem.run_bind, run_underlying Tryz.underlying3 w]
    simp
  simp [part, Sem.run_bind, hagg, h]
theorem equalIn_int (d : Nat) (a b : Int) (w : World) : (Op.equalIn (d + 1) 3 (.int .i64 a) (.int .i64 b)).run Tryz.prog w = .ok (a == b) w := by
  simp [Op.equalIn, run_underlying Tryz.underlying3]
theorem eq2 (x0 x1 y0 y1 : Int) (w : World) : (Op.equalIn 10000 42 (.agg #[.int .i64 x0, .int .i64 x1]) (.agg #[.int .i64 y0, .int .i64 y1])).run Tryz.prog w = .ok (x0 == y0 && x1 == y1) w := by
  rw [show (10000 : Nat) = 9999 + 1 from rfl, run_equalIn_array (P := Tryz.prog) (w := w) 9999 _ _ Tryz.underlying42 (i := (Tryz.prog.info? 3).getD default) (by kernel_rfl)]
  rw [show Tryz.prog.cellsOf 3 = 1 from by kernel_rfl, show List.range 2 = [0, 1] from rfl]
  have hp : ∀ (u0 u1 : Value) (w : World), (part 3 #[u0, u1] 0).run Tryz.prog w = .ok u0 w ∧ (part 3 #[u0, u1] 1).run Tryz.prog w = .ok u1 w := fun u0 u1 w => ⟨part_int _ _ _ rfl w, part_int _ _ _ rfl w⟩
  have hq := fun a b w => equalIn_int 9998 a b w
  simp only [Op.eqItems, Sem.run_bind, Nat.mul_one, (hp _ _ _).1, Result.andThen_ok, hq]
  generalize (x0 == y0) = c0
  cases c0
  · simp
  simp only [Bool.not_true, Bool.false_eq_true, if_false, Bool.true_and, Sem.run_bind, (hp _ _ _).2, Result.andThen_ok, hq]
  generalize (x1 == y1) = c0
  cases c0 <;> simp
attribute [local go_sem] eq2

set_option maxRecDepth 100000 in
set_option maxHeartbeats 4000000 in
theorem walk [Sha.Words] (one : ByteArray) (hone : one.size ≤ 140737488351232) (two : ByteArray) (htwo : two.size ≤ 140737488351232) (a : Int) (ha : -9223372036854775808 ≤ a ∧ a ≤ 9223372036854775807) (b : Int) (hb : -9223372036854775808 ≤ b ∧ b ≤ 9223372036854775807) (c : Int) (hc : -9223372036854775808 ≤ c ∧ c ≤ 9223372036854775807) (d : Int) (hd : -9223372036854775808 ≤ d ∧ d ≤ 9223372036854775807) (w : World) (hR : Sha.RoundIn w) :
    Calls Tryz.prog 4 #[.string one, .string two, .agg #[.int .i64 a, .int .i64 b], .agg #[.int .i64 c, .int .i64 d]] w fun e w' => e = .returned (.bool true) ∧ Below w.heap.size w w' := by
  obtain ⟨L, hL1, hL2, hL3⟩ : ∃ L : Nat, min (one.size : Int) 20 = (L : Int) ∧ L ≤ one.size ∧ L ≤ 20 := ⟨min one.size 20, by omega, by omega, by omega⟩
  have sX := fun W => sl_hi one (L : Int) L rfl hL2 W
  have hXs : (one.extract 0 L).size = L := by rw [ByteArray.size_extract]; omega
  generalize one.extract 0 L = X at *
  obtain ⟨M, hM1, hM2, hM3⟩ : ∃ M : Nat, min (two.size : Int) 20 = (M : Int) ∧ M ≤ two.size ∧ M ≤ 20 := ⟨min two.size 20, by omega, by omega, by omega⟩
  have sY := fun W => sl_hi two (M : Int) M rfl hM2 W
  have hYs : (two.extract 0 M).size = M := by rw [ByteArray.size_extract]; omega
  generalize two.extract 0 M = Y at *
  have hPm0 := fun W => pick9_any a 1000001 ha (by decide) W
  obtain ⟨m0, em0, lm0⟩ := pick_nat a 1000001 (by decide)
  change pickOf a 1000001 = (m0 : Int) at em0
  rw [em0] at hPm0
  have hPm1 := fun W => pick9_any b 1000001 hb (by decide) W
  obtain ⟨m1, em1, lm1⟩ := pick_nat b 1000001 (by decide)
  change pickOf b 1000001 = (m1 : Int) at em1
  rw [em1] at hPm1
  have hPn0 := fun W => pick9_any c 1000001 hc (by decide) W
  obtain ⟨n0, en0, ln0⟩ := pick_nat c 1000001 (by decide)
  change pickOf c 1000001 = (n0 : Int) at en0
  rw [en0] at hPn0
  have hPn1 := fun W => pick9_any d 1000001 hd (by decide) W
  obtain ⟨n1, en1, ln1⟩ := pick_nat d 1000001 (by decide)
  change pickOf d 1000001 = (n1 : Int) at en1
  rw [en1] at hPn1
  have hA := fun W => Ask_ok X m0 m1 (by omega) (by omega) (by omega) W
  have hB := fun W => Ask_ok Y n0 n1 (by omega) (by omega) (by omega) W
  have hsz : (asked X m0 m1).size = L + 9 := by rw [asked_size]; omega
  have hinj : asked X m0 m1 = asked Y n0 n1 → X = Y ∧ m0 = n0 ∧ m1 = n1 := asked_inj (by omega) (by omega) (by omega) (by omega) (by omega) (by omega)
  have hsame : X = Y → m0 = n0 → m1 = n1 → asked X m0 m1 = asked Y n0 n1 := by rintro rfl rfl rfl; rfl
  generalize asked X m0 m1 = A at *
  generalize asked Y n0 n1 = B at *
  have iA : (A.size : Int) = (L : Int) + 9 := by omega
  have iX : (X.size : Int) = (L : Int) := by omega
  obtain ⟨p0, q0, hb0, hz0⟩ := box2 w #[.int .i64 a, .int .i64 b] #[.int .i64 c, .int .i64 d] 42 42
  have hAw := awake9_any _ (hR.below hb0)
  have hcmp : (A.toList == B.toList) = ((X.toList == Y.toList) && (decide (m0 = n0) && decide (m1 = n1))) := by
    rw [texts_beq, texts_beq]
    by_cases h1 : X = Y
    · by_cases h2 : m0 = n0
      · by_cases h3 : m1 = n1
        · simp [h1, h2, h3, hsame h1 h2 h3]
        · have : ¬ A = B := fun h => h3 (hinj h).2.2
          simp [h1, h2, h3, this]
      · have : ¬ A = B := fun h => h2 (hinj h).2.1
        simp [h2, this]
    · have : ¬ A = B := fun h => h1 (hinj h).1
      simp [h1, this]
  have HPm0 := Lib.hid hPm0
  have HPm1 := Lib.hid hPm1
  have HPn0 := Lib.hid hPn0
  have HPn1 := Lib.hid hPn1
  have HA := Lib.hid hA
  have HB := Lib.hid hB
  have HAw := Lib.hid hAw
  have HR := Lib.hid hR
  have Hcmp := Lib.hid hcmp
  clear hPm0 hPm1 hPn0 hPn1 hA hB hAw hR hinj hsame hsz hXs hYs hone htwo ha hb hc hd em0 em1 en0 en1 lm0 lm1 ln0 ln1 hcmp hL3 hM3 hz0
  go_enter Tryz.func4, Tryz.ntmps4
  go_wp2_with fail
  refine HAw.out.mono ?_
  rintro e w1 ⟨rfl, hb1⟩
  have p1 := p0.below hb1 p0.lt
  have q1 := q0.below hb1 q0.lt
  have hb01 := below_seq hb0 hb1
  clear p0 q0 hb0 hb1 HAw
  go_upto_region 4 with fail
  have c0 : w1.cell? ⟨w.heap.size, 0, none⟩ = some (.int .i64 a) := p1.cell 0
  have c1 : w1.cell? ⟨w.heap.size, 1, none⟩ = some (.int .i64 b) := p1.cell 1
  have u1 : w.heap.size < w1.heap.size := p1.lt
  have u2 : w.heap.size ≠ w1.heap.size := by omega
  go_cut [12] from 29 to 35 (fun v wx => ∃ g, v = .pointer (some ⟨g, 0, none⟩) ∧ Row wx g 42 #[.int .i64 (m0 : Int), .int .i64 (m1 : Int)] ∧ Below w1.heap.size w1 wx)
  case first =>
    refine wp_region_any (by kernel_rfl) ?_
    change wpAny _ _ _ _ _ _ _ (World.drew w1)
    refine wpAny_head 8 [29, 30, 31, 32, 33, 34, 35, 12] 1 #[true, true, true, true, true, true, true, true, false] (fun j v W => match j with
      | 0 => v = .pointer (some ⟨w.heap.size, 0, none⟩)
      | 1 => v = .int .i64 a
      | 2 => v = .int .i64 (m0 : Int)
      | 3 => v = .pointer (some ⟨w.heap.size, 1, none⟩)
      | 4 => v = .int .i64 b
      | 5 => v = .int .i64 (m1 : Int)
      | 6 => v = .agg #[.int .i64 (m0 : Int), .int .i64 (m1 : Int)]
      | _ => ∃ g, v = .pointer (some ⟨g, 0, none⟩) ∧ w1.heap.size ≤ g ∧ Row W g 42 #[.int .i64 0, .int .i64 0]) (by kernel_rfl) (by kernel_rfl) (by kernel_rfl) (by kernel_rfl) ?_ ?_ ?_
    · intro j hj v W W' h hb
      rcases j with _ | _ | _ | _ | _ | _ | _ | j
      all_goals first
        | exact h
        | (obtain ⟨g, h1, h2, h3⟩ := h; exact ⟨g, h1, h2, h3.below hb h3.lt⟩)
    · refine HSteps.cons rfl (fun x W ρ hB hdep hin hout hcon hfun => ?_) (HSteps.cons rfl (fun x W ρ hB hdep hin hout hcon hfun => ?_) (HSteps.cons rfl (fun x W ρ hB hdep hin hout hcon hfun => ?_) (HSteps.cons rfl (fun x W ρ hB hdep hin hout hcon hfun => ?_) (HSteps.cons rfl (fun x W ρ hB hdep hin hout hcon hfun => ?_) (HSteps.cons rfl (fun x W ρ hB hdep hin hout hcon hfun => ?_) (HSteps.cons rfl (fun x W ρ hB hdep hin hout hcon hfun => ?_) (HSteps.cons rfl (fun x W ρ hB hdep hin hout hcon hfun => ?_) (HSteps.nil (Nat.le_refl _)))))))))
      · skip
        have e6 := hout 6 (by decide)
        change ρ (.tmp 6) = .pointer (some ⟨w.heap.size, 0, none⟩) at e6
        clear hdep hin hout
        refine Stepped.val ?_ rfl
        go_simp
      · skip
        have d0 := hdep ⟨0, .data⟩ (by simp) rfl
        have e29 := hin 0 29 rfl
        rw [show x 0 = _ from d0] at e29
        have z0 := cell_below hB c0
        clear hdep hin hout
        refine Stepped.val ?_ rfl
        go_simp
      · skip
        have d1 := hdep ⟨1, .data⟩ (by simp) rfl
        have e30 := hin 1 30 rfl
        rw [show x 1 = _ from d1] at e30
        clear hdep hin hout
        refine Stepped.call (f := 11) (args := #[.int .i64 a, .int .i64 1000001]) ?_ ?_
        · go_simp
        · skip
          refine (HPm0.out _).mono ?_
          rintro e W' ⟨rfl, rfl⟩
          exact ⟨_, rfl, Below.refl _ _, rfl⟩
      · skip
        have e6 := hout 6 (by decide)
        change ρ (.tmp 6) = .pointer (some ⟨w.heap.size, 0, none⟩) at e6
        clear hdep hin hout
        refine Stepped.val ?_ rfl
        go_simp
      · skip
        have d3 := hdep ⟨3, .data⟩ (by simp) rfl
        have e32 := hin 3 32 rfl
        rw [show x 3 = _ from d3] at e32
        have z1 := cell_below hB c1
        clear hdep hin hout
        refine Stepped.val ?_ rfl
        go_simp
      · skip
        have d4 := hdep ⟨4, .data⟩ (by simp) rfl
        have e33 := hin 4 33 rfl
        rw [show x 4 = _ from d4] at e33
        clear hdep hin hout
        refine Stepped.call (f := 11) (args := #[.int .i64 b, .int .i64 1000001]) ?_ ?_
        · go_simp
        · skip
          refine (HPm1.out _).mono ?_
          rintro e W' ⟨rfl, rfl⟩
          exact ⟨_, rfl, Below.refl _ _, rfl⟩
      · skip
        have d2 := hdep ⟨2, .data⟩ (by simp) rfl
        have e31 := hin 2 31 rfl
        rw [show x 2 = _ from d2] at e31
        have d5 := hdep ⟨5, .data⟩ (by simp) rfl
        have e34 := hin 5 34 rfl
        rw [show x 5 = _ from d5] at e34
        clear hdep hin hout
        refine Stepped.val ?_ rfl
        go_simp
      · skip
        clear hdep hin hout
        refine Stepped.grow (v := .pointer (some ⟨W.heap.size, 0, none⟩)) (w' := W.alloc (.cells #[.int .i64 0, .int .i64 0] 42)) ?_ ((Below.refl _ _).alloc (Nat.le_refl _) _) ⟨_, rfl, hB.size, Row.new W _ _⟩
        go_simp
    · intro x W hB hR
      have d0 := hR 0 (by decide)
      have d1 := hR 1 (by decide)
      have d2 := hR 2 (by decide)
      have d3 := hR 3 (by decide)
      have d4 := hR 4 (by decide)
      have d5 := hR 5 (by decide)
      have d6 := hR 6 (by decide)
      obtain ⟨g, d7, hg, hrow⟩ := hR 7 (by decide)
      clear hR
      change x 0 = _ at d0
      change x 1 = _ at d1
      change x 2 = _ at d2
      change x 3 = _ at d3
      change x 4 = _ at d4
      change x 5 = _ at d5
      change x 6 = _ at d6
      change x 7 = _ at d7
      have z0 : W.cell? ⟨g, 0, none⟩ = some (.int .i64 0) := hrow.cell 0
      have z1 : W.cell? ⟨g, 1, none⟩ = some (.int .i64 0) := hrow.cell 1
      have f0 := hrow.frozen 0
      have f1 := hrow.frozen 1
      simp only [putAll, Act.put, d0, d1, d2, d3, d4, d5, d6, d7]
      refine wpAny_ready (rs := [8]) (by kernel_rfl) (by simp) ?_
      refine AllReady.cons rfl (fun K hK => ?_) AllReady.nil
      go_simp
      refine hK _ _ ?_
      clear hK K
      refine wpAny_done (by kernel_rfl) ?_ _
      go_wp2
      go_meet
      exact ⟨g, rfl, (hrow.store 0 _).store 1 _, (((below_drew hB)).setCell (p := ⟨g, 0, none⟩) hg _).setCell (p := ⟨g, 1, none⟩) hg _⟩
  case rest =>
    obtain ⟨w3, rfl⟩ : ∃ w3, w3 = wc := ⟨_, rfl⟩
    obtain ⟨g, rfl, hg, hbx⟩ := hcut
    have q2 := q1.below hbx q1.lt
    have hb02 := hb01.trans (hbx.mono hb01.size)
    have Hg := Lib.hid hg
    have hbx2 := hbx.size
    clear p1 q1 hb01 c0 c1 u1 u2 hbx hg HPm0 HPm1
    go_upto_region 5 with fail
    have c0 : w3.cell? ⟨w.heap.size + 1, 0, none⟩ = some (.int .i64 c) := q2.cell 0
    have c1 : w3.cell? ⟨w.heap.size + 1, 1, none⟩ = some (.int .i64 d) := q2.cell 1
    go_cut [13] from 36 to 42 (fun v wx => ∃ g, v = .pointer (some ⟨g, 0, none⟩) ∧ Row wx g 42 #[.int .i64 (n0 : Int), .int .i64 (n1 : Int)] ∧ Below w3.heap.size w3 wx)
    case first =>
      refine wp_region_any (by kernel_rfl) ?_
      change wpAny _ _ _ _ _ _ _ (World.drew w3)
      refine wpAny_head 8 [36, 37, 38, 39, 40, 41, 42, 13] 1 #[true, true, true, true, true, true, true, true, false] (fun j v W => match j with
        | 0 => v = .pointer (some ⟨w.heap.size + 1, 0, none⟩)
        | 1 => v = .int .i64 c
        | 2 => v = .int .i64 (n0 : Int)
        | 3 => v = .pointer (some ⟨w.heap.size + 1, 1, none⟩)
        | 4 => v = .int .i64 d
        | 5 => v = .int .i64 (n1 : Int)
        | 6 => v = .agg #[.int .i64 (n0 : Int), .int .i64 (n1 : Int)]
        | _ => ∃ g, v = .pointer (some ⟨g, 0, none⟩) ∧ w3.heap.size ≤ g ∧ Row W g 42 #[.int .i64 0, .int .i64 0]) (by kernel_rfl) (by kernel_rfl) (by kernel_rfl) (by kernel_rfl) ?_ ?_ ?_
      · intro j hj v W W' h hb
        rcases j with _ | _ | _ | _ | _ | _ | _ | j
        all_goals first
          | exact h
          | (obtain ⟨g, h1, h2, h3⟩ := h; exact ⟨g, h1, h2, h3.below hb h3.lt⟩)
      · refine HSteps.cons rfl (fun x W ρ hB hdep hin hout hcon hfun => ?_) (HSteps.cons rfl (fun x W ρ hB hdep hin hout hcon hfun => ?_) (HSteps.cons rfl (fun x W ρ hB hdep hin hout hcon hfun => ?_) (HSteps.cons rfl (fun x W ρ hB hdep hin hout hcon hfun => ?_) (HSteps.cons rfl (fun x W ρ hB hdep hin hout hcon hfun => ?_) (HSteps.cons rfl (fun x W ρ hB hdep hin hout hcon hfun => ?_) (HSteps.cons rfl (fun x W ρ hB hdep hin hout hcon hfun => ?_) (HSteps.cons rfl (fun x W ρ hB hdep hin hout hcon hfun => ?_) (HSteps.nil (Nat.le_refl _)))))))))
        · skip
          have e7 := hout 7 (by decide)
          change ρ (.tmp 7) = .pointer (some ⟨w.heap.size + 1, 0, none⟩) at e7
          clear hdep hin hout
          refine Stepped.val ?_ rfl
          go_simp
        · skip
          have d0 := hdep ⟨0, .data⟩ (by simp) rfl
          have e36 := hin 0 36 rfl
          rw [show x 0 = _ from d0] at e36
          have z0 := cell_below hB c0
          clear hdep hin hout
          refine Stepped.val ?_ rfl
          go_simp
        · skip
          have d1 := hdep ⟨1, .data⟩ (by simp) rfl
          have e37 := hin 1 37 rfl
          rw [show x 1 = _ from d1] at e37
          clear hdep hin hout
          refine Stepped.call (f := 11) (args := #[.int .i64 c, .int .i64 1000001]) ?_ ?_
          · go_simp
          · skip
            refine (HPn0.out _).mono ?_
            rintro e W' ⟨rfl, rfl⟩
            exact ⟨_, rfl, Below.refl _ _, rfl⟩
        · skip
          have e7 := hout 7 (by decide)
          change ρ (.tmp 7) = .pointer (some ⟨w.heap.size + 1, 0, none⟩) at e7
          clear hdep hin hout
          refine Stepped.val ?_ rfl
          go_simp
        · skip
          have d3 := hdep ⟨3, .data⟩ (by simp) rfl
          have e39 := hin 3 39 rfl
          rw [show x 3 = _ from d3] at e39
          have z1 := cell_below hB c1
          clear hdep hin hout
          refine Stepped.val ?_ rfl
          go_simp
        · skip
          have d4 := hdep ⟨4, .data⟩ (by simp) rfl
          have e40 := hin 4 40 rfl
          rw [show x 4 = _ from d4] at e40
          clear hdep hin hout
          refine Stepped.call (f := 11) (args := #[.int .i64 d, .int .i64 1000001]) ?_ ?_
          · go_simp
          · skip
            refine (HPn1.out _).mono ?_
            rintro e W' ⟨rfl, rfl⟩
            exact ⟨_, rfl, Below.refl _ _, rfl⟩
        · skip
          have d2 := hdep ⟨2, .data⟩ (by simp) rfl
          have e38 := hin 2 38 rfl
          rw [show x 2 = _ from d2] at e38
          have d5 := hdep ⟨5, .data⟩ (by simp) rfl
          have e41 := hin 5 41 rfl
          rw [show x 5 = _ from d5] at e41
          clear hdep hin hout
          refine Stepped.val ?_ rfl
          go_simp
        · skip
          clear hdep hin hout
          refine Stepped.grow (v := .pointer (some ⟨W.heap.size, 0, none⟩)) (w' := W.alloc (.cells #[.int .i64 0, .int .i64 0] 42)) ?_ ((Below.refl _ _).alloc (Nat.le_refl _) _) ⟨_, rfl, hB.size, Row.new W _ _⟩
          go_simp
      · intro x W hB hR
        have d0 := hR 0 (by decide)
        have d1 := hR 1 (by decide)
        have d2 := hR 2 (by decide)
        have d3 := hR 3 (by decide)
        have d4 := hR 4 (by decide)
        have d5 := hR 5 (by decide)
        have d6 := hR 6 (by decide)
        obtain ⟨g, d7, hg, hrow⟩ := hR 7 (by decide)
        clear hR
        change x 0 = _ at d0
        change x 1 = _ at d1
        change x 2 = _ at d2
        change x 3 = _ at d3
        change x 4 = _ at d4
        change x 5 = _ at d5
        change x 6 = _ at d6
        change x 7 = _ at d7
        have z0 : W.cell? ⟨g, 0, none⟩ = some (.int .i64 0) := hrow.cell 0
        have z1 : W.cell? ⟨g, 1, none⟩ = some (.int .i64 0) := hrow.cell 1
        have f0 := hrow.frozen 0
        have f1 := hrow.frozen 1
        simp only [putAll, Act.put, d0, d1, d2, d3, d4, d5, d6, d7]
        refine wpAny_ready (rs := [8]) (by kernel_rfl) (by simp) ?_
        refine AllReady.cons rfl (fun K hK => ?_) AllReady.nil
        go_simp
        refine hK _ _ ?_
        clear hK K
        refine wpAny_done (by kernel_rfl) ?_ _
        go_wp2
        go_meet
        exact ⟨g, rfl, (hrow.store 0 _).store 1 _, (((below_drew hB)).setCell (p := ⟨g, 0, none⟩) hg _).setCell (p := ⟨g, 1, none⟩) hg _⟩
    case rest =>
      obtain ⟨g', rfl, hg', hbx'⟩ := hcut
      have hg2 := Hg.out.below hbx' Hg.out.lt
      have hb03 := hb02.trans (hbx'.mono hb02.size)
      clear Hg hbx' hb02 c0 c1 q2 HPn0 HPn1
      have c0 : wc.cell? ⟨g, 0, none⟩ = some (.int .i64 (m0 : Int)) := hg2.cell 0
      have c1 : wc.cell? ⟨g, 1, none⟩ = some (.int .i64 (m1 : Int)) := hg2.cell 1
      have Hg := Lib.hid hg2
      have Hg' := Lib.hid hg'
      clear hg2 hg'
      go_wp2_with fail
      refine (HA.out _).mono ?_
      rintro e w4 ⟨rfl, hb4⟩
      have p4 := Hg.out.below hb4 Hg.out.lt
      have q4 := Hg'.out.below hb4 Hg'.out.lt
      have hb04 := below_seq hb03 hb4
      clear c0 c1 Hg Hg' hb4 hb03 HA
      have c0 : w4.cell? ⟨g', 0, none⟩ = some (.int .i64 (n0 : Int)) := q4.cell 0
      have c1 : w4.cell? ⟨g', 1, none⟩ = some (.int .i64 (n1 : Int)) := q4.cell 1
      go_wp2_with fail
      refine (HB.out _).mono ?_
      rintro e w5 ⟨rfl, hb5⟩
      have p5 := p4.below hb5 p4.lt
      have q5 := q4.below hb5 q4.lt
      have Hb5 := Lib.hid (below_seq hb04 hb5)
      clear c0 c1 p4 q4 hb5 hb04 HB
      have c0 : w5.cell? ⟨g, 0, none⟩ = some (.int .i64 (m0 : Int)) := p5.cell 0
      have c1 : w5.cell? ⟨g, 1, none⟩ = some (.int .i64 (m1 : Int)) := p5.cell 1
      have d0 : w5.cell? ⟨g', 0, none⟩ = some (.int .i64 (n0 : Int)) := q5.cell 0
      have d1 : w5.cell? ⟨g', 1, none⟩ = some (.int .i64 (n1 : Int)) := q5.cell 1
      clear p5 q5
      have arm : ∀ (p q r : Bool), decide (X = Y) = p → decide (m0 = n0) = q → decide (m1 = n1) = r → (X.toList == Y.toList) = p ∧ (A.toList == B.toList) = (p && (q && r)) ∧ ((m0 : Int) == (n0 : Int)) = q ∧ ((m1 : Int) == (n1 : Int)) = r := by
        intro p q r h1 h2 h3
        refine ⟨by rw [texts_beq, h1], by rw [Hcmp.out, texts_beq, h1, h2, h3], ?_, ?_⟩
        · rw [← h2, Bool.eq_iff_iff]; simp; omega
        · rw [← h3, Bool.eq_iff_iff]; simp; omega
      obtain ⟨p, hp⟩ : ∃ p, decide (X = Y) = p := ⟨_, rfl⟩
      obtain ⟨q, hq⟩ : ∃ q, decide (m0 = n0) = q := ⟨_, rfl⟩
      obtain ⟨r, hr⟩ : ∃ r, decide (m1 = n1) = r := ⟨_, rfl⟩
      obtain ⟨b1, b2, b3, b4⟩ := arm p q r hp hq hr
      clear arm hp hq hr Hcmp
      cases p <;> cases q <;> cases r
      all_goals
        go_wp2
        go_ret
        exact ⟨rfl, Hb5.out⟩

theorem own : ownKnob Tryz.prog.godebug = none := by kernel_rfl
theorem lay : laidOutB Tryz.prog = true := by kernel_rfl

set_option maxRecDepth 100000 in
theorem lifted (os : Os) (started : os.Started) (H : Type) (enc : TypeId × Value → H) :
    ReturnsInHanded {} Tryz.checked os 4 .any (Rows.oracleAsksSpec.pre6 enc Tryz.prog Tryz.f4 Rows.oracleAsksRow.domain false) (Rows.oracleAsksSpec.post enc Tryz.prog Tryz.f4 false true false false) := by
  refine returnsInHanded_of_change_shaped (C := Tryz.checked) own started (by kernel_rfl) Tryz.func4
    (ChangeSpec.witness6 (enc := enc) (C := Tryz.checked) false ⟨#[], #[.string ⟨#[]⟩, .string ⟨#[]⟩, .agg #[.int .i64 0, .int .i64 0], .agg #[.int .i64 0, .int .i64 0]], []⟩ 8 (by kernel_rfl) (by kernel_rfl) (by kernel_rfl) (by kernel_rfl)) ?_
  intro W base args ds gs before hval0 hW hcnd hsz0 hsh _
  have hval : ∀ (j : Nat) t v, Tryz.f4.params[j]? = some t → args[j]? = some v → Value.okWide Tryz.prog W .any base t v := hval0
  have hsz : (DataW.weightsEach Tryz.prog (Tryz.f4.params.toList ++ Rows.oracleAsksSpec.plain.varTypes Tryz.prog) (ds ++ gs)).all (· ≤ reachBytes) = true := hsz0
  have hW' := hW
  obtain ⟨p, q, hA0, hV, rfl, hfz, hnd⟩ := hW
  have hA : DataW.TrodAll enc Tryz.prog W 0 (fun _ => true) true Tryz.f4.params.toList args.toList ds p := hA0
  rw [Tryz.params4] at hA hval hsz
  obtain ⟨v0, vs0, d0, ds0, p0, q0, hargs, rfl, rfl, h0, r0⟩ := trodAll_cons hA
  obtain ⟨v1, vs1, d1, ds1, p1, q1, rfl, rfl, rfl, h1, r1⟩ := trodAll_cons r0
  obtain ⟨v2, vs2, d2, ds2, p2, q2, rfl, rfl, rfl, h2, r2⟩ := trodAll_cons r1
  obtain ⟨v3, vs3, d3, ds3, p3, q3, rfl, rfl, rfl, h3, r3⟩ := trodAll_cons r2
  obtain ⟨rfl, rfl, rfl⟩ := trodAll_nil r3
  obtain rfl : args = #[v0, v1, v2, v3] := by cases args; simp_all
  obtain ⟨rfl, rfl⟩ := trodVars_none hV
  obtain ⟨a0, rfl, rfl, rfl, w0⟩ := ChangeMaps.open_string Tryz.underlying9 (hval 0 9 v0 rfl rfl) h0
  have z0 : a0.size ≤ 140737488351232 := sized_string hsz (j := 0) rfl rfl
  obtain ⟨a1, rfl, rfl, rfl, w1⟩ := ChangeMaps.open_string Tryz.underlying9 (hval 1 9 v1 rfl rfl) h1
  have z1 : a1.size ≤ 140737488351232 := sized_string hsz (j := 1) rfl rfl
  obtain ⟨a2, c2, rfl, rfl, rfl, w2, u2⟩ := open_pair ⟨Tryz.underlying42, by kernel_rfl, by kernel_rfl, by kernel_rfl⟩ Tryz.underlying3 (hval 2 42 v2 rfl rfl) h2
  obtain ⟨a3, c3, rfl, rfl, rfl, w3, u3⟩ := open_pair ⟨Tryz.underlying42, by kernel_rfl, by kernel_rfl, by kernel_rfl⟩ Tryz.underlying3 (hval 3 42 v3 rfl rfl) h3
  obtain ⟨kw, hkw⟩ := Sha.words_of hsh
  letI : Sha.Words := ⟨kw⟩
  have hRI : Sha.RoundIn W := hkw
  refine (walk a0 z0 a1 z1 a2 (bounds_i64 w2) c2 (bounds_i64 u2) a3 (bounds_i64 w3) c3 (bounds_i64 u3) W hRI).mono fun e W' ⟨he, hg⟩ => ?_
  subst he
  have hts : ∀ t ∈ Tryz.f4.params.toList, Tryz.prog.readableRec t = true ∧ t < Tryz.prog.types.size := by
    rw [Tryz.params4]
    intro t ht
    simp only [List.mem_cons, List.not_mem_nil, or_false] at ht
    rcases ht with rfl | rfl | rfl | rfl <;> exact ⟨by kernel_rfl, of_decide_eq_true (by kernel_rfl)⟩
  exact ⟨_, rfl, post_true lay hts (by kernel_rfl) Tryz.underlying4 rfl rfl hW' hg⟩

theorem proved : Rows.OracleAsksSaid :=
  OpenClaim.holds_of_wide 4 Tryz.f4 rfl rfl rfl rfl rfl rfl rfl ⟨rfl, rfl, rfl, rfl, rfl⟩ rfl rfl rfl rfl rfl (by kernel_rfl) Tryz.func4 (by kernel_rfl)
    (of_decide_eq_true (by kernel_rfl)) (by unfold Func.isWrapper; first | (rw [if_pos (by decide +kernel)]; kernel_rfl) | (rw [if_neg (by decide +kernel)]; exact ⟨rfl, rfl⟩))
    (fun os started H enc _ => lifted os started H enc)
#print axioms proved

end Go.Proofs.YtjnolopnkecmdaaGreat.oracleAsks
