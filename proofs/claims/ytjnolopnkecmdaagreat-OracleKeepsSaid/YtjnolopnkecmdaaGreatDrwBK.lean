/-
  Several texts in one: DrwB.
-/
import Derived.Test.YtjnolopnkecmdaaGreatDrwAK
import Derived.Test.YtjnolopnkecmdaaGreatRK
import Derived.Test.YtjnolopnkecmdaaGreatOD

/-
  The laws' own: ref09.Fresh; law09.Oracle, nothing asked.
-/
namespace Go.Proofs.YtjnolopnkecmdaaGreat
open Go.RowKit

/-- Where Fresh stands. -/
def FreAt (w : World) (tb : ByteArray) (p b i : Nat) (vo : Value) (wr : World) : Prop :=
  wr.ownsRow (w.heap.size + 2) 5 1 vo i (List.replicate i (U b)) ∧ Row wr w.heap.size 23 #[.string tb, .int .i64 (p : Int)] ∧ Row wr (w.heap.size + 1) 31 #[.int .i64 0, .string ⟨#[]⟩, .string ⟨#[]⟩, .int .i64 0, .slice none 0 0, .slice none 0 0, .bool false] ∧ Below w.heap.size w wr

theorem freAt_next {w W w2 : World} {tb : ByteArray} {p b i : Nat} {vo v' : Value} (h : FreAt w tb p b i vo W) (hown' : w2.ownsRow (w.heap.size + 2) 5 1 v' (i + 1) (List.replicate i (U b) ++ [U b])) (hg : W.grownBy w2 vo.ownBlock) : FreAt w tb p b (i + 1) v' w2 := by
  obtain ⟨hown, hp, hq, hB⟩ := h
  have hk := keep_grown hg
  have hne : ∀ k, vo.ownBlock = some k → w.heap.size + 2 ≤ k := fun k hk => (hown.lt k hk).1
  refine ⟨?_, hp.keep hk (fun e => by have := hne _ e; omega), hq.keep hk (fun e => by have := hne _ e; omega), hB.trans (keep_below (B := w.heap.size) hk (fun k hk e => by have := hne _ e; omega) hB.size)⟩
  rw [List.replicate_succ']
  exact hown'
theorem freAt_alloc {w W : World} {tb : ByteArray} {p b i : Nat} {vo : Value} (h : FreAt w tb p b i vo W) (o : Obj) : FreAt w tb p b i vo (W.alloc o) := ⟨h.1.alloc o, h.2.1.alloc o, h.2.2.1.alloc o, h.2.2.2.alloc h.2.2.2.size o⟩

set_option maxRecDepth 100000 in
set_option maxHeartbeats 4000000 in
theorem Fresh_any (m : Int) (b : Nat) (tb : ByteArray) (p : Nat) (h1 : tb.size ≤ 65536) (h2 : p ≤ tb.size) (w : World) :
    Calls Tryz.prog 31 #[.int .i64 m, .int .u8 (b : Int), .agg #[.string tb, .int .i64 (p : Int)]] w fun e w' => e = .returned (.agg (Orc.vals m (strOf (List.replicate 32 b)) tb p (.slice none 0 0) (.slice none 0 0) false)) ∧ Below w.heap.size w w' := by
  obtain ⟨i0, hi0, hz0, hz1, hz2⟩ := info_parts LawA.infoByte
  have hT := fun W => refTapeRight_any tb p h1 h2 W
  obtain ⟨p0, q0, hb0, hz⟩ := box2 w #[.string tb, .int .i64 (p : Int)] #[.int .i64 0, .string ⟨#[]⟩, .string ⟨#[]⟩, .int .i64 0, .slice none 0 0, .slice none 0 0, .bool false] 23 31
  have HT := Lib.hid hT
  have Hst := Lib.hid (show FreAt w tb p b 0 (.slice none 0 0) _ from ⟨by simpa using World.ownsRow_nil _ _ _ 1, p0, q0, hb0⟩)
  clear hT p0 q0 hb0 hz h1 h2
  unfold Orc.vals
  obtain ⟨key, hkey⟩ : ∃ key, strOf (List.replicate 32 b) = key := ⟨_, rfl⟩
  rw [hkey]
  go_enter Tryz.func31, Tryz.ntmps31
  go_wp2
  go_loopw [7, 8] (fun vo vi wr => ∃ i : Nat, i ≤ 32 ∧ vi = .int .i64 (i : Int) ∧ FreAt w tb p b i vo wr) (fun _ vi _ => 32 - (intOf vi).toNat)
  case atStart => exact ⟨0, Nat.zero_le _, rfl, Hst.out⟩
  case round =>
    clear Hst
    obtain ⟨i, hi, rfl, hF⟩ := hrel
    have Hown := Lib.hid hF.1
    have Hp := Lib.hid hF.2.1
    have Hq := Lib.hid hF.2.2.1
    have HB := Lib.hid hF.2.2.2
    have HF := Lib.hid hF
    clear hF
    by_cases hlt : i < 32
    · skip
      go_wp2_with (at_builtin; go_must (refine wpList_append_own _ rfl _ _ 63 rfl (w.heap.size + 2) 5 i0 _ 1 1 Tryz.underlying63 hi0 hz0 hz1 hz2 rfl (by decide) _ _ _ rfl (Hown.out.alloc _) ⟨wr.heap.size, 0, none⟩ 1 1 [U b] rfl rfl ?a2 (by simp [Value.oneCell']) ?a3 ?a4 ?a5 ?_))
      case a2 => intro j u hu; rw [Addr.add_mid, Nat.zero_add, (Row.new wr 5 #[U b]).cell j]; simpa using hu
      case a3 => unfold maxLen; omega
      case a4 => omega
      case a5 => have := Hq.out.lt; rw [World.size_alloc]; omega
      intro v' w2 hown' hgrow _
      have hnx := Lib.hid (freAt_next (freAt_alloc HF.out _) hown' hgrow)
      clear hown' hgrow
      go_wp2
      go_roundw
      case rel => exact ⟨i + 1, by omega, rfl, hnx.out⟩
      case measure => simp [intOf]; omega
    · obtain rfl : i = 32 := by omega
      rcases ownsRow_cases Hown.out (by decide) with ⟨_, h0, _⟩ | ⟨g, cp, rfl, _, _, _, hc⟩
      · cases h0
      · have c0 : wr.cell? ⟨w.heap.size, 0, none⟩ = some (.string tb) := Hp.out.cell 0
        have c1 : wr.cell? ⟨w.heap.size, 1, none⟩ = some (.int .i64 (p : Int)) := Hp.out.cell 1
        clear hc
        go_wp2_with fail
        refine (HT.out _).mono ?_
        rintro e w1 ⟨rfl, hb1⟩
        have hown1 := owns_below Hown.out hb1
        have hp1 := Hp.out.below hb1 Hp.out.lt
        have hq1 := Hq.out.below hb1 Hq.out.lt
        have hB1 := below_seq HB.out hb1
        have hcv : (convert 63 9 (.slice (some ⟨g, 0, none⟩) 32 cp)).run Tryz.prog w1 = .ok (.string (strOf (List.replicate 32 b))) w1 := conv_string Tryz.underlying63 Tryz.underlying5 Tryz.underlying9 g 0 cp (List.replicate 32 b) w1 (fun j hj => by
          rw [Nat.zero_add]
          rcases ownsRow_cases hown1 (by decide) with ⟨_, h0, _⟩ | ⟨g', cp', he, _, _, _, hc⟩
          · cases h0
          · injection he with he _ _
            injection he with he
            injection he with he
            subst he
            have hj2 : j < 32 := by simpa using hj
            exact hc j _ (by rw [List.getElem?_replicate, if_pos hj2, List.getD_eq_getElem?_getD, List.getElem?_replicate, if_pos hj2]; rfl)) 32 (by simp)
        clear c0 c1
        have c0 : w1.cell? ⟨w.heap.size, 0, none⟩ = some (.string tb) := hp1.cell 0
        have c1 : w1.cell? ⟨w.heap.size, 1, none⟩ = some (.int .i64 (p : Int)) := hp1.cell 1
        rw [hkey] at hcv
        have e0 : w1.cell? ⟨w.heap.size + 1, 0, none⟩ = some (.int .i64 0) := hq1.cell 0
        have f0 := hq1.frozen 0
        have e1 : w1.cell? ⟨w.heap.size + 1, 1, none⟩ = some (.string ⟨#[]⟩) := hq1.cell 1
        have f1 := hq1.frozen 1
        have e2 : w1.cell? ⟨w.heap.size + 1, 2, none⟩ = some (.string ⟨#[]⟩) := hq1.cell 2
        have f2 := hq1.frozen 2
        have e3 : w1.cell? ⟨w.heap.size + 1, 3, none⟩ = some (.int .i64 0) := hq1.cell 3
        have f3 := hq1.frozen 3
        have e4 : w1.cell? ⟨w.heap.size + 1, 4, none⟩ = some (.slice none 0 0) := hq1.cell 4
        have f4 := hq1.frozen 4
        have e5 : w1.cell? ⟨w.heap.size + 1, 5, none⟩ = some (.slice none 0 0) := hq1.cell 5
        have f5 := hq1.frozen 5
        have e6 : w1.cell? ⟨w.heap.size + 1, 6, none⟩ = some (.bool false) := hq1.cell 6
        have f6 := hq1.frozen 6
        clear hown1 hp1 HT Hown Hp HF HB Hq hb1
        go_wp2
        all_goals
          refine bodyPost_ret (results_cell_row rfl _ _ (w.heap.size + 1) 31 #[.int .i64 m, .string key, .string tb, .int .i64 (p : Int), .slice none 0 0, .slice none 0 0, .bool false] (0, 0) _ rfl (((((((hq1.store 0 _).store 1 _).store 2 _).store 3 _).store 4 _).store 5 _).store 6 _) Tryz.underlying31 rfl (by kernel_rfl)) rfl ⟨rfl, ?_⟩
          exact ((((((hB1.setCell (p := ⟨w.heap.size + 1, 0, none⟩) (Nat.le_succ _) _).setCell (p := ⟨w.heap.size + 1, 1, none⟩) (Nat.le_succ _) _).setCell (p := ⟨w.heap.size + 1, 2, none⟩) (Nat.le_succ _) _).setCell (p := ⟨w.heap.size + 1, 3, none⟩) (Nat.le_succ _) _).setCell (p := ⟨w.heap.size + 1, 4, none⟩) (Nat.le_succ _) _).setCell (p := ⟨w.heap.size + 1, 5, none⟩) (Nat.le_succ _) _).setCell (p := ⟨w.heap.size + 1, 6, none⟩) (Nat.le_succ _) _


/-- The key that a raw number tells. -/
def keyB (key : Int) : ByteArray := strOf (List.replicate 32 (pickOf key 256).toNat)
theorem keyB_size (key : Int) : (keyB key).size = 32 := by
  unfold keyB
  rw [strOf_size, List.length_replicate]

set_option maxRecDepth 100000 in
set_option maxHeartbeats 4000000 in
theorem Oracle_any (real : Bool) (key : Int) (hkey : -9223372036854775808 ≤ key ∧ key ≤ 9223372036854775807) (tb : ByteArray) (p : Nat) (h1 : tb.size ≤ 65536) (h2 : p ≤ tb.size) (w : World) :
    Calls Tryz.prog 10 #[.bool real, .int .i64 key, .agg #[.string tb, .int .i64 (p : Int)], .slice none 0 0] w fun e w' => e = .returned (.agg (Orc.vals (if real = true then 1 else 2) (keyB key) tb p (.slice none 0 0) (.slice none 0 0) false)) ∧ Below w.heap.size w w' := by
  have hP := fun W => pick9_any key 256 hkey (by decide) W
  obtain ⟨b, eb, lb⟩ := pick_nat key 256 (by decide)
  change pickOf key 256 = (b : Int) at eb
  have hF := fun W => Fresh_any (if real = true then 1 else 2) b tb p h1 h2 W
  unfold keyB
  rw [eb] at hP ⊢
  rw [Int.toNat_natCast]
  obtain ⟨K, hK⟩ : ∃ K, strOf (List.replicate 32 b) = K := ⟨_, rfl⟩
  obtain ⟨m, hm⟩ : ∃ m : Int, (if real = true then 1 else 2) = m := ⟨_, rfl⟩
  rw [hK, hm] at hF ⊢
  have hb256 : (b : Int) % 256 = (b : Int) := by omega
  have hbw : IntKind.u8.wrap (b : Int) = (b : Int) := by rw [IntKind.wrap_u8]; omega
  unfold Orc.vals at *
  obtain ⟨p0, q0, hb0, hz⟩ := box2 w #[.string tb, .int .i64 (p : Int)] #[.int .i64 0, .string ⟨#[]⟩, .string ⟨#[]⟩, .int .i64 0, .slice none 0 0, .slice none 0 0, .bool false] 23 31
  have HP := Lib.hid hP
  have HF := Lib.hid hF
  have c0 := p0.cell 0
  have c1 := p0.cell 1
  change World.cell? _ _ = some _ at c0 c1
  obtain ⟨W1, hW1⟩ : ∃ W1, ((w.alloc (.cells #[.string tb, .int .i64 (p : Int)] 23)).alloc (.cells #[.int .i64 0, .string ⟨#[]⟩, .string ⟨#[]⟩, .int .i64 0, .slice none 0 0, .slice none 0 0, .bool false] 31)) = W1 := ⟨_, rfl⟩
  rw [hW1] at p0 q0 hb0 hz c0 c1
  have Hq := Lib.hid q0
  have Hb := Lib.hid hb0
  clear hP hF p0 q0 hb0 hK eb h1 h2 hkey
  go_enter Tryz.func10, Tryz.ntmps10
  cases real
  · obtain rfl : m = 2 := hm.symm
    clear hm
    go_upto_region 4 with fail
    go_cut [10] from 17 to 22 (fun v wx => ∃ g, v = .pointer (some ⟨g, 0, none⟩) ∧ W1.heap.size ≤ g ∧ Row wx g 31 #[.int .i64 2, .string K, .string tb, .int .i64 (p : Int), .slice none 0 0, .slice none 0 0, .bool false] ∧ Below W1.heap.size W1 wx)
    case first =>
      refine wp_region_any (by kernel_rfl) ?_
      change wpAny _ _ _ _ _ _ _ (World.drew W1)
      refine wpAny_head 7 [17, 18, 19, 20, 21, 22, 10] 1 #[true, true, true, true, true, true, true, false] (fun j v W => match j with
        | 0 => v = .int .i64 2
        | 1 => v = .int .i64 key
        | 2 => v = .int .i64 (b : Int)
        | 3 => v = .int .u8 (b : Int)
        | 4 => v = .agg #[.string tb, .int .i64 (p : Int)]
        | 5 => v = .agg #[.int .i64 2, .string K, .string tb, .int .i64 (p : Int), .slice none 0 0, .slice none 0 0, .bool false]
        | _ => ∃ g, v = .pointer (some ⟨g, 0, none⟩) ∧ W1.heap.size ≤ g ∧ Row W g 31 #[.int .i64 0, .string ⟨#[]⟩, .string ⟨#[]⟩, .int .i64 0, .slice none 0 0, .slice none 0 0, .bool false]) (by kernel_rfl) (by kernel_rfl) (by kernel_rfl) (by kernel_rfl) ?_ ?_ ?_
      · intro j hj v W W' h hb
        rcases j with _ | _ | _ | _ | _ | _ | j
        all_goals first
          | exact h
          | (obtain ⟨g, h1, h2, h3⟩ := h; exact ⟨g, h1, h2, h3.below hb h3.lt⟩)
      · refine HSteps.cons rfl (fun x W ρ hB hdep hin hout hcon hfun => ?_) (HSteps.cons rfl (fun x W ρ hB hdep hin hout hcon hfun => ?_) (HSteps.cons rfl (fun x W ρ hB hdep hin hout hcon hfun => ?_) (HSteps.cons rfl (fun x W ρ hB hdep hin hout hcon hfun => ?_) (HSteps.cons rfl (fun x W ρ hB hdep hin hout hcon hfun => ?_) (HSteps.cons rfl (fun x W ρ hB hdep hin hout hcon hfun => ?_) (HSteps.cons rfl (fun x W ρ hB hdep hin hout hcon hfun => ?_) (HSteps.nil (Nat.le_refl _))))))))
        · skip
          have e9 := hout 9 (by decide)
          change ρ (.tmp 9) = .int .i64 2 at e9
          clear hdep hin hout
          refine Stepped.val ?_ rfl
          go_simp
        · skip
          have e1 := hout 1 (by decide)
          change ρ (.tmp 1) = .int .i64 key at e1
          clear hdep hin hout
          refine Stepped.val ?_ rfl
          go_simp
        · skip
          have d1 := hdep ⟨1, .data⟩ (by simp) rfl
          have e18 := hin 1 18 rfl
          rw [show x 1 = _ from d1] at e18
          clear hdep hin hout
          refine Stepped.call (f := 11) (args := #[.int .i64 key, .int .i64 256]) ?_ ?_
          · go_simp
          · skip
            refine (HP.out _).mono ?_
            rintro e W' ⟨rfl, rfl⟩
            exact ⟨_, rfl, Below.refl _ _, rfl⟩
        · skip
          have d2 := hdep ⟨2, .data⟩ (by simp) rfl
          have e19 := hin 2 19 rfl
          rw [show x 2 = _ from d2] at e19
          clear hdep hin hout
          refine Stepped.val ?_ rfl
          go_simp
        · skip
          have e6 := hout 6 (by decide)
          change ρ (.tmp 6) = .pointer (some ⟨w.heap.size, 0, none⟩) at e6
          have z0 := cell_below hB c0
          have z1 := cell_below hB c1
          clear hdep hin hout
          refine Stepped.val ?_ rfl
          go_simp
        · skip
          have d0 := hdep ⟨0, .data⟩ (by simp) rfl
          have e17 := hin 0 17 rfl
          rw [show x 0 = _ from d0] at e17
          have d3 := hdep ⟨3, .data⟩ (by simp) rfl
          have e20 := hin 3 20 rfl
          rw [show x 3 = _ from d3] at e20
          have d4 := hdep ⟨4, .data⟩ (by simp) rfl
          have e21 := hin 4 21 rfl
          rw [show x 4 = _ from d4] at e21
          clear hdep hin hout
          refine Stepped.call (f := 31) (args := #[.int .i64 2, .int .u8 (b : Int), .agg #[.string tb, .int .i64 (p : Int)]]) ?_ ?_
          · go_simp
          · skip
            refine (HF.out _).mono ?_
            rintro e W' ⟨rfl, hbx⟩
            exact ⟨_, rfl, hbx, rfl⟩
        · skip
          clear hdep hin hout
          refine Stepped.grow (v := .pointer (some ⟨W.heap.size, 0, none⟩)) (w' := W.alloc (.cells #[.int .i64 0, .string ⟨#[]⟩, .string ⟨#[]⟩, .int .i64 0, .slice none 0 0, .slice none 0 0, .bool false] 31)) ?_ ((Below.refl _ _).alloc (Nat.le_refl _) _) ⟨_, rfl, hB.size, Row.new W _ _⟩
          go_simp
      · intro x W hB hR
        have d0 := hR 0 (by decide)
        have d1 := hR 1 (by decide)
        have d2 := hR 2 (by decide)
        have d3 := hR 3 (by decide)
        have d4 := hR 4 (by decide)
        have d5 := hR 5 (by decide)
        obtain ⟨g, d6, hg, hrow⟩ := hR 6 (by decide)
        clear hR
        change x 0 = _ at d0
        change x 1 = _ at d1
        change x 2 = _ at d2
        change x 3 = _ at d3
        change x 4 = _ at d4
        change x 5 = _ at d5
        change x 6 = _ at d6
        have z0 : W.cell? ⟨g, 0, none⟩ = some (.int .i64 0) := hrow.cell 0
        have z1 : W.cell? ⟨g, 1, none⟩ = some (.string ⟨#[]⟩) := hrow.cell 1
        have z2 : W.cell? ⟨g, 2, none⟩ = some (.string ⟨#[]⟩) := hrow.cell 2
        have z3 : W.cell? ⟨g, 3, none⟩ = some (.int .i64 0) := hrow.cell 3
        have z4 : W.cell? ⟨g, 4, none⟩ = some (.slice none 0 0) := hrow.cell 4
        have z5 : W.cell? ⟨g, 5, none⟩ = some (.slice none 0 0) := hrow.cell 5
        have z6 : W.cell? ⟨g, 6, none⟩ = some (.bool false) := hrow.cell 6
        have f0 := hrow.frozen 0
        have f1 := hrow.frozen 1
        have f2 := hrow.frozen 2
        have f3 := hrow.frozen 3
        have f4 := hrow.frozen 4
        have f5 := hrow.frozen 5
        have f6 := hrow.frozen 6
        simp only [putAll, Act.put, d0, d1, d2, d3, d4, d5, d6]
        refine wpAny_ready (rs := [7]) (by kernel_rfl) (by simp) ?_
        refine AllReady.cons rfl (fun K hK => ?_) AllReady.nil
        go_simp
        refine hK _ _ ?_
        clear hK K
        refine wpAny_done (by kernel_rfl) ?_ _
        go_wp2
        go_meet
        exact ⟨g, rfl, hg, (((((((hrow.store 0 _).store 1 _).store 2 _).store 3 _).store 4 _).store 5 _).store 6 _), (((((((below_drew hB).setCell (p := ⟨g, 0, none⟩) hg _).setCell (p := ⟨g, 1, none⟩) hg _).setCell (p := ⟨g, 2, none⟩) hg _).setCell (p := ⟨g, 3, none⟩) hg _).setCell (p := ⟨g, 4, none⟩) hg _).setCell (p := ⟨g, 5, none⟩) hg _).setCell (p := ⟨g, 6, none⟩) hg _⟩
    case rest =>
      obtain ⟨g, rfl, hg, hrow, hbx⟩ := hcut
      have q1 := Hq.out.below hbx Hq.out.lt
      have hb1 := Hb.out.trans (hbx.mono Hb.out.size)
      have hlt : w.heap.size + 1 < W1.heap.size := Hq.out.lt
      have z0 : wc.cell? ⟨g, 0, none⟩ = some (.int .i64 2) := hrow.cell 0
      have z1 : wc.cell? ⟨g, 1, none⟩ = some (.string K) := hrow.cell 1
      have z2 : wc.cell? ⟨g, 2, none⟩ = some (.string tb) := hrow.cell 2
      have z3 : wc.cell? ⟨g, 3, none⟩ = some (.int .i64 (p : Int)) := hrow.cell 3
      have z4 : wc.cell? ⟨g, 4, none⟩ = some (.slice none 0 0) := hrow.cell 4
      have z5 : wc.cell? ⟨g, 5, none⟩ = some (.slice none 0 0) := hrow.cell 5
      have z6 : wc.cell? ⟨g, 6, none⟩ = some (.bool false) := hrow.cell 6
      have e0 : wc.cell? ⟨w.heap.size + 1, 0, none⟩ = some (.int .i64 0) := q1.cell 0
      have f0 := q1.frozen 0
      have e1 : wc.cell? ⟨w.heap.size + 1, 1, none⟩ = some (.string ⟨#[]⟩) := q1.cell 1
      have f1 := q1.frozen 1
      have e2 : wc.cell? ⟨w.heap.size + 1, 2, none⟩ = some (.string ⟨#[]⟩) := q1.cell 2
      have f2 := q1.frozen 2
      have e3 : wc.cell? ⟨w.heap.size + 1, 3, none⟩ = some (.int .i64 0) := q1.cell 3
      have f3 := q1.frozen 3
      have e4 : wc.cell? ⟨w.heap.size + 1, 4, none⟩ = some (.slice none 0 0) := q1.cell 4
      have f4 := q1.frozen 4
      have e5 : wc.cell? ⟨w.heap.size + 1, 5, none⟩ = some (.slice none 0 0) := q1.cell 5
      have f5 := q1.frozen 5
      have e6 : wc.cell? ⟨w.heap.size + 1, 6, none⟩ = some (.bool false) := q1.cell 6
      have f6 := q1.frozen 6
      clear c0 c1 hbx HP HF hW1
      have Hrow := Lib.hid hrow
      have Hq1 := Lib.hid q1
      have Hb1 := Lib.hid hb1
      clear hrow q1 hb1
      go_wp2
      go_loopw [11] (fun vi wr => vi = .int .i64 0 ∧ wr = wc) (fun _ _ => 0)
      case atStart => exact ⟨rfl, rfl⟩
      case round =>
        obtain ⟨rfl, rfl⟩ := hrel
        go_wp2
        refine bodyPost_ret (results_cell_row rfl _ _ (w.heap.size + 1) 31 #[.int .i64 2, .string K, .string tb, .int .i64 (p : Int), .slice none 0 0, .slice none 0 0, .bool false] (0, 0) _ rfl (((((((Hq1.out.store 0 _).store 1 _).store 2 _).store 3 _).store 4 _).store 5 _).store 6 _) Tryz.underlying31 rfl (by kernel_rfl)) rfl ⟨rfl, ?_⟩
        exact ((((((Hb1.out.setCell (p := ⟨w.heap.size + 1, 0, none⟩) (Nat.le_succ _) _).setCell (p := ⟨w.heap.size + 1, 1, none⟩) (Nat.le_succ _) _).setCell (p := ⟨w.heap.size + 1, 2, none⟩) (Nat.le_succ _) _).setCell (p := ⟨w.heap.size + 1, 3, none⟩) (Nat.le_succ _) _).setCell (p := ⟨w.heap.size + 1, 4, none⟩) (Nat.le_succ _) _).setCell (p := ⟨w.heap.size + 1, 5, none⟩) (Nat.le_succ _) _).setCell (p := ⟨w.heap.size + 1, 6, none⟩) (Nat.le_succ _) _
  · obtain rfl : m = 1 := hm.symm
    clear hm
    go_upto_region 4 with fail
    go_cut [10] from 17 to 22 (fun v wx => ∃ g, v = .pointer (some ⟨g, 0, none⟩) ∧ W1.heap.size ≤ g ∧ Row wx g 31 #[.int .i64 1, .string K, .string tb, .int .i64 (p : Int), .slice none 0 0, .slice none 0 0, .bool false] ∧ Below W1.heap.size W1 wx)
    case first =>
      refine wp_region_any (by kernel_rfl) ?_
      change wpAny _ _ _ _ _ _ _ (World.drew W1)
      refine wpAny_head 7 [17, 18, 19, 20, 21, 22, 10] 1 #[true, true, true, true, true, true, true, false] (fun j v W => match j with
        | 0 => v = .int .i64 1
        | 1 => v = .int .i64 key
        | 2 => v = .int .i64 (b : Int)
        | 3 => v = .int .u8 (b : Int)
        | 4 => v = .agg #[.string tb, .int .i64 (p : Int)]
        | 5 => v = .agg #[.int .i64 1, .string K, .string tb, .int .i64 (p : Int), .slice none 0 0, .slice none 0 0, .bool false]
        | _ => ∃ g, v = .pointer (some ⟨g, 0, none⟩) ∧ W1.heap.size ≤ g ∧ Row W g 31 #[.int .i64 0, .string ⟨#[]⟩, .string ⟨#[]⟩, .int .i64 0, .slice none 0 0, .slice none 0 0, .bool false]) (by kernel_rfl) (by kernel_rfl) (by kernel_rfl) (by kernel_rfl) ?_ ?_ ?_
      · intro j hj v W W' h hb
        rcases j with _ | _ | _ | _ | _ | _ | j
        all_goals first
          | exact h
          | (obtain ⟨g, h1, h2, h3⟩ := h; exact ⟨g, h1, h2, h3.below hb h3.lt⟩)
      · refine HSteps.cons rfl (fun x W ρ hB hdep hin hout hcon hfun => ?_) (HSteps.cons rfl (fun x W ρ hB hdep hin hout hcon hfun => ?_) (HSteps.cons rfl (fun x W ρ hB hdep hin hout hcon hfun => ?_) (HSteps.cons rfl (fun x W ρ hB hdep hin hout hcon hfun => ?_) (HSteps.cons rfl (fun x W ρ hB hdep hin hout hcon hfun => ?_) (HSteps.cons rfl (fun x W ρ hB hdep hin hout hcon hfun => ?_) (HSteps.cons rfl (fun x W ρ hB hdep hin hout hcon hfun => ?_) (HSteps.nil (Nat.le_refl _))))))))
        · skip
          have e9 := hout 9 (by decide)
          change ρ (.tmp 9) = .int .i64 1 at e9
          clear hdep hin hout
          refine Stepped.val ?_ rfl
          go_simp
        · skip
          have e1 := hout 1 (by decide)
          change ρ (.tmp 1) = .int .i64 key at e1
          clear hdep hin hout
          refine Stepped.val ?_ rfl
          go_simp
        · skip
          have d1 := hdep ⟨1, .data⟩ (by simp) rfl
          have e18 := hin 1 18 rfl
          rw [show x 1 = _ from d1] at e18
          clear hdep hin hout
          refine Stepped.call (f := 11) (args := #[.int .i64 key, .int .i64 256]) ?_ ?_
          · go_simp
          · skip
            refine (HP.out _).mono ?_
            rintro e W' ⟨rfl, rfl⟩
            exact ⟨_, rfl, Below.refl _ _, rfl⟩
        · skip
          have d2 := hdep ⟨2, .data⟩ (by simp) rfl
          have e19 := hin 2 19 rfl
          rw [show x 2 = _ from d2] at e19
          clear hdep hin hout
          refine Stepped.val ?_ rfl
          go_simp
        · skip
          have e6 := hout 6 (by decide)
          change ρ (.tmp 6) = .pointer (some ⟨w.heap.size, 0, none⟩) at e6
          have z0 := cell_below hB c0
          have z1 := cell_below hB c1
          clear hdep hin hout
          refine Stepped.val ?_ rfl
          go_simp
        · skip
          have d0 := hdep ⟨0, .data⟩ (by simp) rfl
          have e17 := hin 0 17 rfl
          rw [show x 0 = _ from d0] at e17
          have d3 := hdep ⟨3, .data⟩ (by simp) rfl
          have e20 := hin 3 20 rfl
          rw [show x 3 = _ from d3] at e20
          have d4 := hdep ⟨4, .data⟩ (by simp) rfl
          have e21 := hin 4 21 rfl
          rw [show x 4 = _ from d4] at e21
          clear hdep hin hout
          refine Stepped.call (f := 31) (args := #[.int .i64 1, .int .u8 (b : Int), .agg #[.string tb, .int .i64 (p : Int)]]) ?_ ?_
          · go_simp
          · skip
            refine (HF.out _).mono ?_
            rintro e W' ⟨rfl, hbx⟩
            exact ⟨_, rfl, hbx, rfl⟩
        · skip
          clear hdep hin hout
          refine Stepped.grow (v := .pointer (some ⟨W.heap.size, 0, none⟩)) (w' := W.alloc (.cells #[.int .i64 0, .string ⟨#[]⟩, .string ⟨#[]⟩, .int .i64 0, .slice none 0 0, .slice none 0 0, .bool false] 31)) ?_ ((Below.refl _ _).alloc (Nat.le_refl _) _) ⟨_, rfl, hB.size, Row.new W _ _⟩
          go_simp
      · intro x W hB hR
        have d0 := hR 0 (by decide)
        have d1 := hR 1 (by decide)
        have d2 := hR 2 (by decide)
        have d3 := hR 3 (by decide)
        have d4 := hR 4 (by decide)
        have d5 := hR 5 (by decide)
        obtain ⟨g, d6, hg, hrow⟩ := hR 6 (by decide)
        clear hR
        change x 0 = _ at d0
        change x 1 = _ at d1
        change x 2 = _ at d2
        change x 3 = _ at d3
        change x 4 = _ at d4
        change x 5 = _ at d5
        change x 6 = _ at d6
        have z0 : W.cell? ⟨g, 0, none⟩ = some (.int .i64 0) := hrow.cell 0
        have z1 : W.cell? ⟨g, 1, none⟩ = some (.string ⟨#[]⟩) := hrow.cell 1
        have z2 : W.cell? ⟨g, 2, none⟩ = some (.string ⟨#[]⟩) := hrow.cell 2
        have z3 : W.cell? ⟨g, 3, none⟩ = some (.int .i64 0) := hrow.cell 3
        have z4 : W.cell? ⟨g, 4, none⟩ = some (.slice none 0 0) := hrow.cell 4
        have z5 : W.cell? ⟨g, 5, none⟩ = some (.slice none 0 0) := hrow.cell 5
        have z6 : W.cell? ⟨g, 6, none⟩ = some (.bool false) := hrow.cell 6
        have f0 := hrow.frozen 0
        have f1 := hrow.frozen 1
        have f2 := hrow.frozen 2
        have f3 := hrow.frozen 3
        have f4 := hrow.frozen 4
        have f5 := hrow.frozen 5
        have f6 := hrow.frozen 6
        simp only [putAll, Act.put, d0, d1, d2, d3, d4, d5, d6]
        refine wpAny_ready (rs := [7]) (by kernel_rfl) (by simp) ?_
        refine AllReady.cons rfl (fun K hK => ?_) AllReady.nil
        go_simp
        refine hK _ _ ?_
        clear hK K
        refine wpAny_done (by kernel_rfl) ?_ _
        go_wp2
        go_meet
        exact ⟨g, rfl, hg, (((((((hrow.store 0 _).store 1 _).store 2 _).store 3 _).store 4 _).store 5 _).store 6 _), (((((((below_drew hB).setCell (p := ⟨g, 0, none⟩) hg _).setCell (p := ⟨g, 1, none⟩) hg _).setCell (p := ⟨g, 2, none⟩) hg _).setCell (p := ⟨g, 3, none⟩) hg _).setCell (p := ⟨g, 4, none⟩) hg _).setCell (p := ⟨g, 5, none⟩) hg _).setCell (p := ⟨g, 6, none⟩) hg _⟩
    case rest =>
      obtain ⟨g, rfl, hg, hrow, hbx⟩ := hcut
      have q1 := Hq.out.below hbx Hq.out.lt
      have hb1 := Hb.out.trans (hbx.mono Hb.out.size)
      have hlt : w.heap.size + 1 < W1.heap.size := Hq.out.lt
      have z0 : wc.cell? ⟨g, 0, none⟩ = some (.int .i64 1) := hrow.cell 0
      have z1 : wc.cell? ⟨g, 1, none⟩ = some (.string K) := hrow.cell 1
      have z2 : wc.cell? ⟨g, 2, none⟩ = some (.string tb) := hrow.cell 2
      have z3 : wc.cell? ⟨g, 3, none⟩ = some (.int .i64 (p : Int)) := hrow.cell 3
      have z4 : wc.cell? ⟨g, 4, none⟩ = some (.slice none 0 0) := hrow.cell 4
      have z5 : wc.cell? ⟨g, 5, none⟩ = some (.slice none 0 0) := hrow.cell 5
      have z6 : wc.cell? ⟨g, 6, none⟩ = some (.bool false) := hrow.cell 6
      have e0 : wc.cell? ⟨w.heap.size + 1, 0, none⟩ = some (.int .i64 0) := q1.cell 0
      have f0 := q1.frozen 0
      have e1 : wc.cell? ⟨w.heap.size + 1, 1, none⟩ = some (.string ⟨#[]⟩) := q1.cell 1
      have f1 := q1.frozen 1
      have e2 : wc.cell? ⟨w.heap.size + 1, 2, none⟩ = some (.string ⟨#[]⟩) := q1.cell 2
      have f2 := q1.frozen 2
      have e3 : wc.cell? ⟨w.heap.size + 1, 3, none⟩ = some (.int .i64 0) := q1.cell 3
      have f3 := q1.frozen 3
      have e4 : wc.cell? ⟨w.heap.size + 1, 4, none⟩ = some (.slice none 0 0) := q1.cell 4
      have f4 := q1.frozen 4
      have e5 : wc.cell? ⟨w.heap.size + 1, 5, none⟩ = some (.slice none 0 0) := q1.cell 5
      have f5 := q1.frozen 5
      have e6 : wc.cell? ⟨w.heap.size + 1, 6, none⟩ = some (.bool false) := q1.cell 6
      have f6 := q1.frozen 6
      clear c0 c1 hbx HP HF hW1
      have Hrow := Lib.hid hrow
      have Hq1 := Lib.hid q1
      have Hb1 := Lib.hid hb1
      clear hrow q1 hb1
      go_wp2
      go_loopw [11] (fun vi wr => vi = .int .i64 0 ∧ wr = wc) (fun _ _ => 0)
      case atStart => exact ⟨rfl, rfl⟩
      case round =>
        obtain ⟨rfl, rfl⟩ := hrel
        go_wp2
        refine bodyPost_ret (results_cell_row rfl _ _ (w.heap.size + 1) 31 #[.int .i64 1, .string K, .string tb, .int .i64 (p : Int), .slice none 0 0, .slice none 0 0, .bool false] (0, 0) _ rfl (((((((Hq1.out.store 0 _).store 1 _).store 2 _).store 3 _).store 4 _).store 5 _).store 6 _) Tryz.underlying31 rfl (by kernel_rfl)) rfl ⟨rfl, ?_⟩
        exact ((((((Hb1.out.setCell (p := ⟨w.heap.size + 1, 0, none⟩) (Nat.le_succ _) _).setCell (p := ⟨w.heap.size + 1, 1, none⟩) (Nat.le_succ _) _).setCell (p := ⟨w.heap.size + 1, 2, none⟩) (Nat.le_succ _) _).setCell (p := ⟨w.heap.size + 1, 3, none⟩) (Nat.le_succ _) _).setCell (p := ⟨w.heap.size + 1, 4, none⟩) (Nat.le_succ _) _).setCell (p := ⟨w.heap.size + 1, 5, none⟩) (Nat.le_succ _) _).setCell (p := ⟨w.heap.size + 1, 6, none⟩) (Nat.le_succ _) _
end Go.Proofs.YtjnolopnkecmdaaGreat
