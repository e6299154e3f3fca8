/-
  Several texts in one: LawOracleDraws.
-/
import Derived.Test.YtjnolopnkecmdaaGreatOD
import Derived.Test.YtjnolopnkecmdaaGreatOrcRK
import Derived.Test.YtjnolopnkecmdaaGreatDrwBK
import Derived.Test.YtjnolopnkecmdaaGreatWA
import Derived.Test.YtjnolopnkecmdaaGreatGG
import Derived.Deep.CutRange
import Derived.Deep.RegionWith
import Derived.HandedShaped

/- For every mode, key, numbers drawn and raw questions the law OracleDraws of layer 9 answers true and leaves its arguments as they were. Condition: none (whatever words the variable digest.round holds). -/
namespace Go.Proofs.YtjnolopnkecmdaaGreat.oracleDraws
open Go.ChangeShapes Go.WideShapes Go.ChangeAt Go.RowKit Go.WideMaps

theorem ints_below {v : Value} {w W : World} (h : IntsIn v w) (hb : Below w.heap.size w W) : IntsIn v W := by
  rcases h with h | ⟨a, len, cap, Z, h0, h1, h2, h3⟩
  · exact .inl h
  · exact .inr ⟨a, len, cap, Z, h0, h1, h2, fun i hi => ⟨cell_below hb (h3 i hi).1, (h3 i hi).2⟩⟩
theorem rows_one {v : Value} {w : World} (h : RowsIn 4 v w) : ∃ ao len cap, v = .slice ao len cap ∧ len ≤ maxLen ∧ ∀ i, i < len → ∃ a z0 z1 z2 z3, ao = some a ∧ (w.cell? ((a.add (i * 4)).add 0) = some (.int .i64 z0) ∧ w.cell? ((a.add (i * 4)).add 1) = some (.int .i64 z1) ∧ w.cell? ((a.add (i * 4)).add 2) = some (.int .i64 z2) ∧ w.cell? ((a.add (i * 4)).add 3) = some (.int .i64 z3)) ∧
    (-9223372036854775808 ≤ z0 ∧ z0 ≤ 9223372036854775807) ∧ (-9223372036854775808 ≤ z1 ∧ z1 ≤ 9223372036854775807) ∧ (-9223372036854775808 ≤ z2 ∧ z2 ≤ 9223372036854775807) ∧ (-9223372036854775808 ≤ z3 ∧ z3 ≤ 9223372036854775807) := by
  rcases h with rfl | ⟨a, len, cap, Z, rfl, h1, h2, h3⟩
  · exact ⟨_, _, _, rfl, Nat.zero_le _, fun i hi => by omega⟩
  · exact ⟨_, _, _, rfl, by omega, fun i hi => ⟨a, Z i 0, Z i 1, Z i 2, Z i 3, rfl, ⟨(h3 i hi 0 (by decide)).1, (h3 i hi 1 (by decide)).1, (h3 i hi 2 (by decide)).1, (h3 i hi 3 (by decide)).1⟩, (h3 i hi 0 (by decide)).2, (h3 i hi 1 (by decide)).2, (h3 i hi 2 (by decide)).2, (h3 i hi 3 (by decide)).2⟩⟩

theorem wordOf_size (c : Int) : (wordOf c).size ≤ 20 := by
  unfold wordOf
  obtain ⟨k, hk, hk6⟩ := pick_nat c 6 (by decide)
  change pickOf c 6 = (k : Int) at hk
  rw [hk, Int.toNat_natCast]
  rcases k with _ | _ | _ | _ | _ | _ | k <;> first | decide | omega

/-- Where the row stands at the head of a round. -/
def At (w : World) (m : Int) (K : ByteArray) (g10 i : Nat) (wr : World) : Prop :=
  ∃ o : Orc, Held wr g10 o ∧ o.Good ∧ o.m = m ∧ o.key = K ∧ o.d.tb.size = 2000 ∧ o.d.nm.length ≤ i ∧ o.d.cl.length ≤ i ∧ o.d.pos ≤ 56 * i ∧ Below w.heap.size w wr

set_option maxRecDepth 100000 in
set_option maxHeartbeats 4000000 in
theorem walk [Sha.Words] (real : Bool) (key : Int) (hkey : -9223372036854775808 ≤ key ∧ key ≤ 9223372036854775807) (draws raw : Value) (w : World) (hR : Sha.RoundIn w) (hD : IntsIn draws w) (hQ : RowsIn 4 raw w) :
    Calls Tryz.prog 7 #[.bool real, .int .i64 key, draws, raw] w fun e w' => e = .returned (.bool true) ∧ Below w.heap.size w w' := by
  have hAw := awake9_any w hR
  have hDr := fun W (hb : Below w.heap.size w W) => Draws_any draws false W (ints_below hD hb)
  have hOr := fun s (hs : s.size = 2000) W => Oracle_any real key hkey s 0 (by omega) (Nat.zero_le _) W
  obtain ⟨K, hK⟩ : ∃ K, keyB key = K := ⟨_, rfl⟩
  have hKs : K.size = 32 := by rw [← hK]; exact keyB_size key
  rw [hK] at hOr
  obtain ⟨m, hm⟩ : ∃ m : Int, (if real = true then 1 else 2) = m := ⟨_, rfl⟩
  have hm12 : m = 1 ∨ m = 2 := by rw [← hm]; cases real <;> simp
  rw [hm] at hOr
  obtain ⟨ao, len, cap, rfl, hlen, hraw⟩ := rows_one hQ
  obtain ⟨da, dl, dc, rfl⟩ : ∃ da dl dc, draws = .slice da dl dc := by
    obtain ⟨a, b, c, h, _⟩ := ints_one hD
    exact ⟨a, b, c, h⟩
  have hlen64 : (len : Int) ≤ 9223372036854775807 := by unfold maxLen at hlen; omega
  unfold Orc.vals at hOr
  have HAw := Lib.hid hAw
  have HDr := Lib.hid hDr
  have HOr := Lib.hid hOr
  have HR := Lib.hid hR
  have Hraw := Lib.hid hraw
  have HKs := Lib.hid hKs
  have Hm12 := Lib.hid hm12
  have Hm := Lib.hid hm
  clear hAw hDr hOr hR hraw hKs hK hD hQ hkey hm12 hm hlen
  go_enter Tryz.func7, Tryz.ntmps7
  go_wp2_with fail
  refine HAw.out.mono ?_
  rintro e w1 ⟨rfl, hb1⟩
  go_wp2_with fail
  refine (HDr.out _ hb1).mono ?_
  rintro e w2 ⟨s, hs, rfl, hb2⟩
  have hb02 := below_seq hb1 hb2
  clear hb1 hb2 HAw HDr
  go_wp2_with fail
  refine (HOr.out s hs _).mono ?_
  rintro e w3 ⟨rfl, hb3⟩
  have hb03 := below_seq hb02 hb3
  have hst : At w m K w3.heap.size 0 (w3.alloc (.cells #[.int .i64 m, .string K, .string s, .int .i64 0, .slice none 0 0, .slice none 0 0, .bool false] 31)) :=
    ⟨⟨m, K, Idl.fresh s 0⟩, ⟨none, 0, none, 0, (by
      show Row _ _ _ (Orc.vals m K s 0 (.slice none 0 0) (.slice none 0 0) (Idl.fresh s 0).clash)
      rw [Idl.fresh_clash]
      exact Row.new w3 _ _), nm_nil _ _, cl_nil _ _⟩, ⟨Hm12.out, HKs.out, Idl.fresh_good (by omega) (Nat.zero_le _)⟩, rfl, rfl, hs, Nat.zero_le _, Nat.zero_le _, Nat.zero_le _, hb03.alloc hb03.size _⟩
  have hg0 : w.heap.size ≤ w3.heap.size := hb03.size
  have Hst := Lib.hid hst
  clear hst hb02 hb03 hb3 HOr
  · skip
    go_wp2
    go_loopw [11] (fun vi wr => ∃ i : Nat, i ≤ 10 ∧ vi = .int .i64 (i : Int) ∧ At w m K w3.heap.size i wr) (fun vi _ => 10 - (intOf vi).toNat)
    case atStart => exact ⟨0, by omega, rfl, Hst.out⟩
    case round =>
      clear Hst
      obtain ⟨i, hi, rfl, hAt⟩ := hrel
      by_cases h10 : i < 10
      · by_cases hil : i < len
        · have h10' : (i : Int) < 10 := by omega
          have hil' : (i : Int) < len := by omega
          obtain ⟨o, hheld, hgood, hom, hokey, htb, hnm, hcl, hpos, hb⟩ := hAt
          obtain ⟨a, z0, z1, z2, z3, rfl, ⟨y0, y1, y2, y3⟩, hz0, hz1, hz2, hz3⟩ := Hraw.out i hil
          have x0 : wr.cell? (a.add (i * 4)) = some (.int .i64 z0) := cell_below hb y0
          have x1 : wr.cell? ⟨(a.add (i * 4)).block, (a.add (i * 4)).off + 1, none⟩ = some (.int .i64 z1) := cell_below hb y1
          have x2 : wr.cell? ⟨(a.add (i * 4)).block, (a.add (i * 4)).off + 2, none⟩ = some (.int .i64 z2) := cell_below hb y2
          have x3 : wr.cell? ⟨(a.add (i * 4)).block, (a.add (i * 4)).off + 3, none⟩ = some (.int .i64 z3) := cell_below hb y3
          clear y0 y1 y2 y3
          have hWd := fun W => Word_any z1 hz1 W
          have hTx := fun W => Text_any z0 hz0 W
          have hP2 := fun W => pick9_any z2 3 hz2 (by decide) W
          obtain ⟨k2, e2, l2⟩ := pick_nat z2 3 (by decide)
          change pickOf z2 3 = (k2 : Int) at e2
          have hP3 := fun W => pick9_any z3 4 hz3 (by decide) W
          obtain ⟨k3, e3, l3⟩ := pick_nat z3 4 (by decide)
          change pickOf z3 4 = (k3 : Int) at e3
          rw [e2] at hP2
          rw [e3] at hP3
          have hws := wordOf_size z1
          generalize wordOf z1 = word at *
          have hts : (textOf (pickOf z0 5).toNat).size = 24 := textOf_size _
          generalize textOf (pickOf z0 5).toNat = tx at *
          have hqs : (asked word k2 k3).size ≤ 100 := by rw [asked_size]; omega
          have hl1 : o.d.nm.length ≠ 2000 := by omega
          have hp1 : o.m = 2 → o.d.pos + 16 ≤ o.d.tb.size := fun _ => by omega
          obtain ⟨hPg, hSs, _, hPtb, hPcl, hPc⟩ := Orc.ask_step hgood (asked word k2 k3) hqs hl1 hp1
          have hL := fun nv cv W hRW hN hC => oracleLabel_all o hgood nv cv word k2 k3 hws (by omega) (by omega) hl1 hp1 W hRW hN hC
          have hPm : (o.ask (asked word k2 k3)).m = m := hom
          have hPk : (o.ask (asked word k2 k3)).key = K := hokey
          have hc16 : o.cost 16 ≤ 16 := by unfold Orc.cost; split <;> omega
          have hc0 : m = 1 → o.cost 16 = 0 := fun h => by unfold Orc.cost; rw [if_pos (hom.trans h)]
          have hc1 : m = 2 → o.cost 16 = 16 := fun h => by unfold Orc.cost; rw [if_neg (by rw [hom, h]; decide)]
          generalize (o.wayL (asked word k2 k3)).1 = S at *
          generalize o.ask (asked word k2 k3) = P at *
          have hpl : P.d.pos ≤ o.d.pos + 16 := by rcases hPc with ⟨_, h⟩ | ⟨_, h⟩ <;> omega
          have hl2 : P.d.cl.length ≠ 2000 := by rw [hPcl]; omega
          have hp2 : P.m = 2 → P.d.pos + 40 ≤ P.d.tb.size := fun _ => by rw [hPtb]; omega
          obtain ⟨hQg, hCs, _, hQtb, hQnm, hQc⟩ := Orc.put_step hPg S tx hSs hts hl2 hp2
          have hCl := fun nv cv W hRW hN hC => oracleCell_all P hPg nv cv S tx hSs hts hl2 hp2 W hRW hN hC
          have hQm : (P.put S tx).m = m := hPm
          have hQk : (P.put S tx).key = K := hPk
          have hd40 : P.cost 40 ≤ 40 := by unfold Orc.cost; split <;> omega
          have hd0 : m = 1 → P.cost 40 = 0 := fun h => by unfold Orc.cost; rw [if_pos (hPm.trans h)]
          have hd1 : m = 2 → P.cost 40 = 40 := fun h => by unfold Orc.cost; rw [if_neg (by rw [hPm, h]; decide)]
          generalize (P.wayC S tx).1 = C at *
          generalize P.put S tx = Q at *
          unfold Orc.agg Orc.vals at hL hCl
          have HL := Lib.hid hL
          have HCl := Lib.hid hCl
          have HWd := Lib.hid hWd
          have HTx := Lib.hid hTx
          have HP2 := Lib.hid hP2
          have HP3 := Lib.hid hP3
          obtain ⟨n1, m1, c1, k1, p10, hN, hC⟩ := hheld
          have hg10 : w3.heap.size < wr.heap.size := p10.lt
          have hg10n : w3.heap.size ≠ wr.heap.size := by omega
          have hbA := hb.alloc hb.size (.cells #[.int .i64 z0, .int .i64 z1, .int .i64 z2, .int .i64 z3] 25)
          have hba := (Below.refl wr.heap.size wr).alloc (Nat.le_refl _) (.cells #[.int .i64 z0, .int .i64 z1, .int .i64 z2, .int .i64 z3] 25)
          have p12 := Row.new wr 25 #[.int .i64 z0, .int .i64 z1, .int .i64 z2, .int .i64 z3]
          have q10 := p10.below hba p10.lt
          have hN6 := owns_below hN hba
          have hC6 := owns_below hC hba
          unfold Orc.vals at q10 p10
          go_upto_region 7 with fail
          generalize wr.alloc (.cells #[.int .i64 z0, .int .i64 z1, .int .i64 z2, .int .i64 z3] 25) = W6 at *
          have u0 : W6.cell? ⟨w3.heap.size, 0, none⟩ = some (.int .i64 o.m) := q10.cell 0
          have u1 : W6.cell? ⟨w3.heap.size, 1, none⟩ = some (.string o.key) := q10.cell 1
          have u2 : W6.cell? ⟨w3.heap.size, 2, none⟩ = some (.string o.d.tb) := q10.cell 2
          have u3 : W6.cell? ⟨w3.heap.size, 3, none⟩ = some (.int .i64 (o.d.pos : Int)) := q10.cell 3
          have u4 : W6.cell? ⟨w3.heap.size, 4, none⟩ = some (.slice n1 o.d.nm.length m1) := q10.cell 4
          have u5 : W6.cell? ⟨w3.heap.size, 5, none⟩ = some (.slice c1 o.d.cl.length k1) := q10.cell 5
          have u6 : W6.cell? ⟨w3.heap.size, 6, none⟩ = some (.bool o.d.clash) := q10.cell 6
          have t0 : W6.cell? ⟨wr.heap.size, 0, none⟩ = some (.int .i64 z0) := p12.cell 0
          have t1 : W6.cell? ⟨wr.heap.size, 1, none⟩ = some (.int .i64 z1) := p12.cell 1
          have t2 : W6.cell? ⟨wr.heap.size, 2, none⟩ = some (.int .i64 z2) := p12.cell 2
          have t3 : W6.cell? ⟨wr.heap.size, 3, none⟩ = some (.int .i64 z3) := p12.cell 3
          have HN6 := Lib.hid hN6
          have HC6 := Lib.hid hC6
          have HbA := Lib.hid hbA
          have Hba := Lib.hid hba
          have Hq10 := Lib.hid q10
          have Hp12 := Lib.hid p12
          clear hN6 hC6 hbA hba q10 p12 p10 hN hC hb hL hCl hWd hTx hP2 hP3 x0 x1 x2 x3
          go_cut [13, 14, 15] from 42 to 56 (fun v13 v14 v15 wx => v13 = .string S ∧ v15 = .int .i64 0 ∧ ∃ g, v14 = .pointer (some ⟨g, 0, none⟩) ∧ W6.heap.size ≤ g ∧ Held wx g P ∧ Below W6.heap.size W6 wx)
          case first =>
            refine wp_region_any (by kernel_rfl) ?_
            change wpAny _ _ _ _ _ _ _ (World.drew W6)
            refine wpAny_stores 17 [43, 44, 45, 46, 47, 48, 49, 50, 51, 52, 53, 42, 54, 55, 56, 14, 13, 100000, 15] (fun b j v W => match j with
              | 0 => v = .agg #[.int .i64 o.m, .string o.key, .string o.d.tb, .int .i64 (o.d.pos : Int), .slice n1 o.d.nm.length m1, .slice c1 o.d.cl.length k1, .bool o.d.clash]
              | 1 => v = .pointer (some ⟨wr.heap.size, 1, none⟩)
              | 2 => v = .int .i64 z1
              | 3 => v = .string word
              | 4 => v = .pointer (some ⟨wr.heap.size, 2, none⟩)
              | 5 => v = .int .i64 z2
              | 6 => v = .int .i64 (k2 : Int)
              | 7 => v = .pointer (some ⟨wr.heap.size, 3, none⟩)
              | 8 => v = .int .i64 z3
              | 9 => v = .int .i64 (k3 : Int)
              | 10 => TupIs b S P v W
              | 11 => TupIs b S P v W
              | 12 => v = .string S
              | 13 => AggIs b P v W
              | 14 => v = .int .i64 0
              | 15 => CellIs b W6.heap.size P v W
              | 16 => v = .string S
              | 17 => True
              | _ => v = .int .i64 0) 151 (by kernel_rfl) (by kernel_rfl) (by decide) ?_ ?_ ?_ ?_
            · intro b j v W W' h hb
              rcases j with _ | _ | _ | _ | _ | _ | _ | _ | _ | _ | _ | _ | _ | _ | _ | _ | _ | _ | j
              · exact h
              · exact h
              · exact h
              · exact h
              · exact h
              · exact h
              · exact h
              · exact h
              · exact h
              · exact h
              · exact TupIs.mono h hb
              · exact TupIs.mono h hb
              · exact h
              · exact AggIs.mono h hb
              · exact h
              · exact CellIs.mono h hb
              · exact h
              · exact h
              · exact h
            · refine ASteps.ahead rfl (by kernel_rfl) (fun x W ρ hB hdep hin hout hcon hfun => ?_) (ASteps.ahead rfl (by kernel_rfl) (fun x W ρ hB hdep hin hout hcon hfun => ?_) (ASteps.ahead rfl (by kernel_rfl) (fun x W ρ hB hdep hin hout hcon hfun => ?_) (ASteps.ahead rfl (by kernel_rfl) (fun x W ρ hB hdep hin hout hcon hfun => ?_) (ASteps.ahead rfl (by kernel_rfl) (fun x W ρ hB hdep hin hout hcon hfun => ?_) (ASteps.ahead rfl (by kernel_rfl) (fun x W ρ hB hdep hin hout hcon hfun => ?_) (ASteps.ahead rfl (by kernel_rfl) (fun x W ρ hB hdep hin hout hcon hfun => ?_) (ASteps.ahead rfl (by kernel_rfl) (fun x W ρ hB hdep hin hout hcon hfun => ?_) (ASteps.ahead rfl (by kernel_rfl) (fun x W ρ hB hdep hin hout hcon hfun => ?_) (ASteps.ahead rfl (by kernel_rfl) (fun x W ρ hB hdep hin hout hcon hfun => ?_) (ASteps.ahead rfl (by kernel_rfl) (fun x W ρ hB hdep hin hout hcon hfun => ?_) (ASteps.ahead rfl (by kernel_rfl) (fun x W ρ hB hdep hin hout hcon hfun => ?_) (ASteps.ahead rfl (by kernel_rfl) (fun x W ρ hB hdep hin hout hcon hfun => ?_) (ASteps.ahead rfl (by kernel_rfl) (fun x W ρ hB hdep hin hout hcon hfun => ?_) (ASteps.free rfl (fun b x W ρ hB hdep hin hout hcon hfun => ?_) (ASteps.ahead rfl (by kernel_rfl) (fun x W ρ hB hdep hin hout hcon hfun => ?_) (ASteps.ahead rfl (by kernel_rfl) (fun x W ρ hB hdep hin hout hcon hfun => ?_) (ASteps.skip (ASteps.free rfl (fun b x W ρ hB hdep hin hout hcon hfun => ?_) (ASteps.nil (by decide))))))))))))))))))))
              · skip
                have e10 := hout 10 (by decide)
                change ρ (.tmp 10) = .pointer (some ⟨w3.heap.size, 0, none⟩) at e10
                have v0 := cell_below hB u0
                have v1 := cell_below hB u1
                have v2 := cell_below hB u2
                have v3 := cell_below hB u3
                have v4 := cell_below hB u4
                have v5 := cell_below hB u5
                have v6 := cell_below hB u6
                clear hdep hin hout
                refine Stepped.val ?_ rfl
                go_simp
              · skip
                have e12 := hout 12 (by decide)
                change ρ (.tmp 12) = .pointer (some ⟨wr.heap.size, 0, none⟩) at e12
                clear hdep hin hout
                refine Stepped.val ?_ rfl
                go_simp
              · skip
                have d1 := hdep ⟨1, .data⟩ (by simp) rfl (by decide)
                have e44 := hin 1 44 rfl (by decide)
                rw [show x 1 = _ from d1] at e44
                have v1 := cell_below hB t1
                clear hdep hin hout
                refine Stepped.val ?_ rfl
                go_simp
              · skip
                have d2 := hdep ⟨2, .data⟩ (by simp) rfl (by decide)
                have e45 := hin 2 45 rfl (by decide)
                rw [show x 2 = _ from d2] at e45
                clear hdep hin hout
                refine Stepped.call (f := 15) (args := #[.int .i64 z1]) ?_ ?_
                · go_simp
                · skip
                  refine (HWd.out _).mono ?_
                  rintro e W' ⟨rfl, hbx⟩
                  exact ⟨_, rfl, hbx, rfl⟩
              · skip
                have e12 := hout 12 (by decide)
                change ρ (.tmp 12) = .pointer (some ⟨wr.heap.size, 0, none⟩) at e12
                clear hdep hin hout
                refine Stepped.val ?_ rfl
                go_simp
              · skip
                have d4 := hdep ⟨4, .data⟩ (by simp) rfl (by decide)
                have e47 := hin 4 47 rfl (by decide)
                rw [show x 4 = _ from d4] at e47
                have v1 := cell_below hB t2
                clear hdep hin hout
                refine Stepped.val ?_ rfl
                go_simp
              · skip
                have d5 := hdep ⟨5, .data⟩ (by simp) rfl (by decide)
                have e48 := hin 5 48 rfl (by decide)
                rw [show x 5 = _ from d5] at e48
                clear hdep hin hout
                refine Stepped.call (f := 11) (args := #[.int .i64 z2, .int .i64 3]) ?_ ?_
                · go_simp
                · skip
                  refine (HP2.out _).mono ?_
                  rintro e W' ⟨rfl, rfl⟩
                  exact ⟨_, rfl, Below.refl _ _, rfl⟩
              · skip
                have e12 := hout 12 (by decide)
                change ρ (.tmp 12) = .pointer (some ⟨wr.heap.size, 0, none⟩) at e12
                clear hdep hin hout
                refine Stepped.val ?_ rfl
                go_simp
              · skip
                have d7 := hdep ⟨7, .data⟩ (by simp) rfl (by decide)
                have e50 := hin 7 50 rfl (by decide)
                rw [show x 7 = _ from d7] at e50
                have v1 := cell_below hB t3
                clear hdep hin hout
                refine Stepped.val ?_ rfl
                go_simp
              · skip
                have d8 := hdep ⟨8, .data⟩ (by simp) rfl (by decide)
                have e51 := hin 8 51 rfl (by decide)
                rw [show x 8 = _ from d8] at e51
                clear hdep hin hout
                refine Stepped.call (f := 11) (args := #[.int .i64 z3, .int .i64 4]) ?_ ?_
                · go_simp
                · skip
                  refine (HP3.out _).mono ?_
                  rintro e W' ⟨rfl, rfl⟩
                  exact ⟨_, rfl, Below.refl _ _, rfl⟩
              · skip
                have d0 := hdep ⟨0, .data⟩ (by simp) rfl (by decide)
                have e43 := hin 0 43 rfl (by decide)
                rw [show x 0 = _ from d0] at e43
                have d3 := hdep ⟨3, .data⟩ (by simp) rfl (by decide)
                have e46 := hin 3 46 rfl (by decide)
                rw [show x 3 = _ from d3] at e46
                have d6 := hdep ⟨6, .data⟩ (by simp) rfl (by decide)
                have e49 := hin 6 49 rfl (by decide)
                rw [show x 6 = _ from d6] at e49
                have d9 := hdep ⟨9, .data⟩ (by simp) rfl (by decide)
                have e52 := hin 9 52 rfl (by decide)
                rw [show x 9 = _ from d9] at e52
                clear hdep hin hout
                refine Stepped.call (f := 18) (args := #[.agg #[.int .i64 o.m, .string o.key, .string o.d.tb, .int .i64 (o.d.pos : Int), .slice n1 o.d.nm.length m1, .slice c1 o.d.cl.length k1, .bool o.d.clash], .string word, .int .i64 (k2 : Int), .int .i64 (k3 : Int)]) ?_ ?_
                · go_simp
                · skip
                  refine (HL.out _ _ W (HR.out.below (HbA.out.trans ((below_drew hB).mono HbA.out.size))) (owns_below HN6.out (below_drew hB)) (owns_below HC6.out (below_drew hB))).mono ?_
                  rintro e W' ⟨nv, cv, rfl, hn', hc', hbx⟩
                  obtain ⟨n2, m2, rfl⟩ := slice_of hn'
                  obtain ⟨c2, k2', rfl⟩ := slice_of hc'
                  exact ⟨_, rfl, hbx, n2, m2, c2, k2', rfl, fun _ => ⟨ownsRow_weak hn' (Nat.zero_le _), ownsRow_weak hc' (Nat.zero_le _)⟩⟩
              · skip
                have d10 := hdep ⟨10, .data⟩ (by simp) rfl (by decide)
                have e53 := hin 10 53 rfl (by decide)
                obtain ⟨n1, m1, c1, k1, d10, hnc⟩ := d10
                rw [show x 10 = _ from d10] at e53
                unfold Orc.vals at e53
                clear hdep hin hout
                refine Stepped.val (v := .tuple #[.string S, .agg (Orc.vals P.m P.key P.d.tb P.d.pos (.slice n1 P.d.nm.length m1) (.slice c1 P.d.cl.length k1) P.d.clash), .int .i64 0]) ?_ ⟨n1, m1, c1, k1, rfl, hnc⟩
                unfold Orc.vals
                go_simp
              · skip
                have d11 := hdep ⟨11, .data⟩ (by simp) rfl (by decide)
                have e42 := hin 11 42 rfl (by decide)
                obtain ⟨n1, m1, c1, k1, d11, hnc⟩ := d11
                rw [show x 11 = _ from d11] at e42
                unfold Orc.vals at e42
                clear hdep hin hout
                refine Stepped.val ?_ rfl
                go_simp
              · skip
                have d11 := hdep ⟨11, .data⟩ (by simp) rfl (by decide)
                have e42 := hin 11 42 rfl (by decide)
                obtain ⟨n1, m1, c1, k1, d11, hnc⟩ := d11
                rw [show x 11 = _ from d11] at e42
                unfold Orc.vals at e42
                clear hdep hin hout
                refine Stepped.val (v := .agg (Orc.vals P.m P.key P.d.tb P.d.pos (.slice n1 P.d.nm.length m1) (.slice c1 P.d.cl.length k1) P.d.clash)) ?_ ⟨n1, m1, c1, k1, rfl, hnc⟩
                unfold Orc.vals
                go_simp
              · skip
                have d11 := hdep ⟨11, .data⟩ (by simp) rfl (by decide)
                have e42 := hin 11 42 rfl (by decide)
                obtain ⟨n1, m1, c1, k1, d11, hnc⟩ := d11
                rw [show x 11 = _ from d11] at e42
                unfold Orc.vals at e42
                clear hdep hin hout
                refine Stepped.val ?_ rfl
                go_simp
              · skip
                clear hdep hin hout
                refine Stepped.grow (v := .pointer (some ⟨W.heap.size, 0, none⟩)) (w' := W.alloc (.cells orcZ 31)) ?_ ((Below.refl _ _).alloc (Nat.le_refl _) _) ⟨_, rfl, hB.size, Row.new W _ _⟩
                unfold orcZ
                go_simp
              · skip
                have d12 := hdep ⟨12, .data⟩ (by simp) rfl (by decide)
                have e54 := hin 12 54 rfl (by decide)
                rw [show x 12 = _ from d12] at e54
                clear hdep hin hout
                refine Stepped.val ?_ rfl
                go_simp
              · skip
                have d14 := hdep ⟨14, .data⟩ (by simp) rfl (by decide)
                have e56 := hin 14 56 rfl (by decide)
                rw [show x 14 = _ from d14] at e56
                clear hdep hin hout
                refine Stepped.val ?_ rfl
                go_simp
            · intro o ho x W ρ hB hdep hin hout hcon
              cases ho
              obtain ⟨g, dg, hg, hr⟩ := hdep ⟨15, .data⟩ (by simp) rfl
              obtain ⟨n1, m1, c1, k1, da, hnc⟩ := hdep ⟨13, .data⟩ (by simp) rfl
              have eg := hin 15 14 rfl (by decide)
              have ea := hin 13 55 rfl (by decide)
              rw [show x 15 = _ from dg] at eg
              rw [show x 13 = _ from da] at ea
              have hr' : Row W g 31 orcZ := hr
              have z0 := hr'.cell 0
              have z1 := hr'.cell 1
              have z2 := hr'.cell 2
              have z3 := hr'.cell 3
              have z4 := hr'.cell 4
              have z5 := hr'.cell 5
              have z6 := hr'.cell 6
              change World.cell? _ _ = some _ at z0 z1 z2 z3 z4 z5 z6
              have f0 := hr'.frozen 0
              have f1 := hr'.frozen 1
              have f2 := hr'.frozen 2
              have f3 := hr'.frozen 3
              have f4 := hr'.frozen 4
              have f5 := hr'.frozen 5
              have f6 := hr'.frozen 6
              have hh := held_put7 (P := P) hr' rfl (hnc rfl).1 (hnc rfl).2
              refine ⟨put7 W g fun i => (Orc.vals P.m P.key P.d.tb P.d.pos (.slice n1 P.d.nm.length m1) (.slice c1 P.d.cl.length k1) P.d.clash).getD i undef, .inl ?_, below_put7 hB hg, ?_⟩
              · clear hh hdep hin hout
                unfold put7
                unfold Orc.vals at ea ⊢
                go_simp
              · intro j hj h
                rcases j with _ | _ | _ | _ | _ | _ | _ | _ | _ | _ | _ | _ | _ | _ | _ | _ | _ | _ | j
                · exact h
                · exact h
                · exact h
                · exact h
                · exact h
                · exact h
                · exact h
                · exact h
                · exact h
                · exact h
                · exact TupIs.late _ h
                · exact TupIs.late _ h
                · exact h
                · exact AggIs.late _ h
                · exact h
                · exact ⟨g, dg, hg, hh⟩
                · exact h
                · exact absurd rfl hj
                · exact h
            · intro x W hB hR
              have d16 := hR 16 (by decide) (by decide)
              have d18 := hR 18 (by decide) (by decide)
              obtain ⟨g, d15, hg, hh⟩ := hR 15 (by decide) (by decide)
              clear hR
              change x 16 = _ at d16
              change x 18 = _ at d18
              have hh : Held W g P := hh
              simp only [putAll, Act.put, d15, d16, d18]
              go_wp2
              go_meet
              exact ⟨rfl, rfl, g, rfl, hg, hh, below_drew hB⟩
          case rest =>
            obtain ⟨w7, rfl⟩ : ∃ w7, w7 = wc := ⟨_, rfl⟩
            obtain ⟨rfl, rfl, g14, rfl, hg14, hP14, hbx⟩ := hcut
            have q10 := Hq10.out.below hbx Hq10.out.lt
            have q12 := Hp12.out.below hbx Hp12.out.lt
            have hb7 := HbA.out.trans (hbx.mono HbA.out.size)
            obtain ⟨n3, m3, c3, k3', p14, hN7, hC7⟩ := hP14
            unfold Orc.vals at p14
            have hne14 : w3.heap.size ≠ g14 := by have := Hq10.out.lt; omega
            clear hg10 hg10n HN6 HC6 HbA Hba Hq10 Hp12 HL HP2 HP3 HWd hbx u0 u1 u2 u3 u4 u5 u6 t0 t1 t2 t3
            go_upto_region 8 with fail
            have u0 : w7.cell? ⟨g14, 0, none⟩ = some (.int .i64 P.m) := p14.cell 0
            have u1 : w7.cell? ⟨g14, 1, none⟩ = some (.string P.key) := p14.cell 1
            have u2 : w7.cell? ⟨g14, 2, none⟩ = some (.string P.d.tb) := p14.cell 2
            have u3 : w7.cell? ⟨g14, 3, none⟩ = some (.int .i64 (P.d.pos : Int)) := p14.cell 3
            have u4 : w7.cell? ⟨g14, 4, none⟩ = some (.slice n3 P.d.nm.length m3) := p14.cell 4
            have u5 : w7.cell? ⟨g14, 5, none⟩ = some (.slice c3 P.d.cl.length k3') := p14.cell 5
            have u6 : w7.cell? ⟨g14, 6, none⟩ = some (.bool P.d.clash) := p14.cell 6
            have t0 : w7.cell? ⟨wr.heap.size, 0, none⟩ = some (.int .i64 z0) := q12.cell 0
            have HN7 := Lib.hid hN7
            have HC7 := Lib.hid hC7
            have HbA := Lib.hid hb7
            have Hq10 := Lib.hid q10
            have Hp14 := Lib.hid p14
            clear hN7 hC7 hb7 q10 q12 p14
            go_cut [16, 17, 18] from 57 to 66 (fun v16 v17 v18 wx => v16 = .string C ∧ v18 = .int .i64 0 ∧ ∃ g, v17 = .pointer (some ⟨g, 0, none⟩) ∧ w7.heap.size ≤ g ∧ Held wx g Q ∧ Below w7.heap.size w7 wx)
            case first =>
              refine wp_region_any (by kernel_rfl) ?_
              change wpAny _ _ _ _ _ _ _ (World.drew w7)
              refine wpAny_stores 12 [58, 59, 60, 61, 62, 63, 57, 64, 65, 66, 17, 16, 100000, 18] (fun b j v W => match j with
                | 0 => v = .agg #[.int .i64 P.m, .string P.key, .string P.d.tb, .int .i64 (P.d.pos : Int), .slice n3 P.d.nm.length m3, .slice c3 P.d.cl.length k3', .bool P.d.clash]
                | 1 => v = .string S
                | 2 => v = .pointer (some ⟨wr.heap.size, 0, none⟩)
                | 3 => v = .int .i64 z0
                | 4 => v = .string tx
                | 5 => TupIs b C Q v W
                | 6 => TupIs b C Q v W
                | 7 => v = .string C
                | 8 => AggIs b Q v W
                | 9 => v = .int .i64 0
                | 10 => CellIs b w7.heap.size Q v W
                | 11 => v = .string C
                | 12 => True
                | _ => v = .int .i64 0) 151 (by kernel_rfl) (by kernel_rfl) (by decide) ?_ ?_ ?_ ?_
              · intro b j v W W' h hb
                rcases j with _ | _ | _ | _ | _ | _ | _ | _ | _ | _ | _ | _ | _ | j
                · exact h
                · exact h
                · exact h
                · exact h
                · exact h
                · exact TupIs.mono h hb
                · exact TupIs.mono h hb
                · exact h
                · exact AggIs.mono h hb
                · exact h
                · exact CellIs.mono h hb
                · exact h
                · exact h
                · exact h
              · refine ASteps.ahead rfl (by kernel_rfl) (fun x W ρ hB hdep hin hout hcon hfun => ?_) (ASteps.ahead rfl (by kernel_rfl) (fun x W ρ hB hdep hin hout hcon hfun => ?_) (ASteps.ahead rfl (by kernel_rfl) (fun x W ρ hB hdep hin hout hcon hfun => ?_) (ASteps.ahead rfl (by kernel_rfl) (fun x W ρ hB hdep hin hout hcon hfun => ?_) (ASteps.ahead rfl (by kernel_rfl) (fun x W ρ hB hdep hin hout hcon hfun => ?_) (ASteps.ahead rfl (by kernel_rfl) (fun x W ρ hB hdep hin hout hcon hfun => ?_) (ASteps.ahead rfl (by kernel_rfl) (fun x W ρ hB hdep hin hout hcon hfun => ?_) (ASteps.ahead rfl (by kernel_rfl) (fun x W ρ hB hdep hin hout hcon hfun => ?_) (ASteps.ahead rfl (by kernel_rfl) (fun x W ρ hB hdep hin hout hcon hfun => ?_) (ASteps.free rfl (fun b x W ρ hB hdep hin hout hcon hfun => ?_) (ASteps.ahead rfl (by kernel_rfl) (fun x W ρ hB hdep hin hout hcon hfun => ?_) (ASteps.ahead rfl (by kernel_rfl) (fun x W ρ hB hdep hin hout hcon hfun => ?_) (ASteps.skip (ASteps.free rfl (fun b x W ρ hB hdep hin hout hcon hfun => ?_) (ASteps.nil (by decide)))))))))))))))
                · skip
                  have e14 := hout 14 (by decide)
                  change ρ (.tmp 14) = .pointer (some ⟨g14, 0, none⟩) at e14
                  have v0 := cell_below hB u0
                  have v1 := cell_below hB u1
                  have v2 := cell_below hB u2
                  have v3 := cell_below hB u3
                  have v4 := cell_below hB u4
                  have v5 := cell_below hB u5
                  have v6 := cell_below hB u6
                  clear hdep hin hout
                  refine Stepped.val ?_ rfl
                  go_simp
                · skip
                  have e13 := hout 13 (by decide)
                  change ρ (.tmp 13) = .string S at e13
                  clear hdep hin hout
                  refine Stepped.val ?_ rfl
                  go_simp
                · skip
                  have e12 := hout 12 (by decide)
                  change ρ (.tmp 12) = .pointer (some ⟨wr.heap.size, 0, none⟩) at e12
                  clear hdep hin hout
                  refine Stepped.val ?_ rfl
                  go_simp
                · skip
                  have d2 := hdep ⟨2, .data⟩ (by simp) rfl (by decide)
                  have e60 := hin 2 60 rfl (by decide)
                  rw [show x 2 = _ from d2] at e60
                  have v1 := cell_below hB t0
                  clear hdep hin hout
                  refine Stepped.val ?_ rfl
                  go_simp
                · skip
                  have d3 := hdep ⟨3, .data⟩ (by simp) rfl (by decide)
                  have e61 := hin 3 61 rfl (by decide)
                  rw [show x 3 = _ from d3] at e61
                  clear hdep hin hout
                  refine Stepped.call (f := 22) (args := #[.int .i64 z0]) ?_ ?_
                  · go_simp
                  · skip
                    refine (HTx.out _).mono ?_
                    rintro e W' ⟨rfl, hbx⟩
                    exact ⟨_, rfl, hbx, rfl⟩
                · skip
                  have d0 := hdep ⟨0, .data⟩ (by simp) rfl (by decide)
                  have e58 := hin 0 58 rfl (by decide)
                  rw [show x 0 = _ from d0] at e58
                  have d1 := hdep ⟨1, .data⟩ (by simp) rfl (by decide)
                  have e59 := hin 1 59 rfl (by decide)
                  rw [show x 1 = _ from d1] at e59
                  have d4 := hdep ⟨4, .data⟩ (by simp) rfl (by decide)
                  have e62 := hin 4 62 rfl (by decide)
                  rw [show x 4 = _ from d4] at e62
                  clear hdep hin hout
                  refine Stepped.call (f := 23) (args := #[.agg #[.int .i64 P.m, .string P.key, .string P.d.tb, .int .i64 (P.d.pos : Int), .slice n3 P.d.nm.length m3, .slice c3 P.d.cl.length k3', .bool P.d.clash], .string S, .string tx]) ?_ ?_
                  · go_simp
                  · skip
                    refine (HCl.out _ _ W (HR.out.below (HbA.out.trans ((below_drew hB).mono HbA.out.size))) (owns_below HN7.out (below_drew hB)) (owns_below HC7.out (below_drew hB))).mono ?_
                    rintro e W' ⟨nv, cv, rfl, hn', hc', hbx⟩
                    obtain ⟨n2, m2, rfl⟩ := slice_of hn'
                    obtain ⟨c2, k2', rfl⟩ := slice_of hc'
                    exact ⟨_, rfl, hbx, n2, m2, c2, k2', rfl, fun _ => ⟨ownsRow_weak hn' (Nat.zero_le _), ownsRow_weak hc' (Nat.zero_le _)⟩⟩
                · skip
                  have d5 := hdep ⟨5, .data⟩ (by simp) rfl (by decide)
                  have e63 := hin 5 63 rfl (by decide)
                  obtain ⟨n1, m1, c1, k1, d5, hnc⟩ := d5
                  rw [show x 5 = _ from d5] at e63
                  unfold Orc.vals at e63
                  clear hdep hin hout
                  refine Stepped.val (v := .tuple #[.string C, .agg (Orc.vals Q.m Q.key Q.d.tb Q.d.pos (.slice n1 Q.d.nm.length m1) (.slice c1 Q.d.cl.length k1) Q.d.clash), .int .i64 0]) ?_ ⟨n1, m1, c1, k1, rfl, hnc⟩
                  unfold Orc.vals
                  go_simp
                · skip
                  have d6 := hdep ⟨6, .data⟩ (by simp) rfl (by decide)
                  have e57 := hin 6 57 rfl (by decide)
                  obtain ⟨n1, m1, c1, k1, d6, hnc⟩ := d6
                  rw [show x 6 = _ from d6] at e57
                  unfold Orc.vals at e57
                  clear hdep hin hout
                  refine Stepped.val ?_ rfl
                  go_simp
                · skip
                  have d6 := hdep ⟨6, .data⟩ (by simp) rfl (by decide)
                  have e57 := hin 6 57 rfl (by decide)
                  obtain ⟨n1, m1, c1, k1, d6, hnc⟩ := d6
                  rw [show x 6 = _ from d6] at e57
                  unfold Orc.vals at e57
                  clear hdep hin hout
                  refine Stepped.val (v := .agg (Orc.vals Q.m Q.key Q.d.tb Q.d.pos (.slice n1 Q.d.nm.length m1) (.slice c1 Q.d.cl.length k1) Q.d.clash)) ?_ ⟨n1, m1, c1, k1, rfl, hnc⟩
                  unfold Orc.vals
                  go_simp
                · skip
                  have d6 := hdep ⟨6, .data⟩ (by simp) rfl (by decide)
                  have e57 := hin 6 57 rfl (by decide)
                  obtain ⟨n1, m1, c1, k1, d6, hnc⟩ := d6
                  rw [show x 6 = _ from d6] at e57
                  unfold Orc.vals at e57
                  clear hdep hin hout
                  refine Stepped.val ?_ rfl
                  go_simp
                · skip
                  clear hdep hin hout
                  refine Stepped.grow (v := .pointer (some ⟨W.heap.size, 0, none⟩)) (w' := W.alloc (.cells orcZ 31)) ?_ ((Below.refl _ _).alloc (Nat.le_refl _) _) ⟨_, rfl, hB.size, Row.new W _ _⟩
                  unfold orcZ
                  go_simp
                · skip
                  have d7 := hdep ⟨7, .data⟩ (by simp) rfl (by decide)
                  have e64 := hin 7 64 rfl (by decide)
                  rw [show x 7 = _ from d7] at e64
                  clear hdep hin hout
                  refine Stepped.val ?_ rfl
                  go_simp
                · skip
                  have d9 := hdep ⟨9, .data⟩ (by simp) rfl (by decide)
                  have e66 := hin 9 66 rfl (by decide)
                  rw [show x 9 = _ from d9] at e66
                  clear hdep hin hout
                  refine Stepped.val ?_ rfl
                  go_simp
              · intro o ho x W ρ hB hdep hin hout hcon
                cases ho
                obtain ⟨g, dg, hg, hr⟩ := hdep ⟨10, .data⟩ (by simp) rfl
                obtain ⟨n1, m1, c1, k1, da, hnc⟩ := hdep ⟨8, .data⟩ (by simp) rfl
                have eg := hin 10 17 rfl (by decide)
                have ea := hin 8 65 rfl (by decide)
                rw [show x 10 = _ from dg] at eg
                rw [show x 8 = _ from da] at ea
                have hr' : Row W g 31 orcZ := hr
                have z0 := hr'.cell 0
                have z1 := hr'.cell 1
                have z2 := hr'.cell 2
                have z3 := hr'.cell 3
                have z4 := hr'.cell 4
                have z5 := hr'.cell 5
                have z6 := hr'.cell 6
                change World.cell? _ _ = some _ at z0 z1 z2 z3 z4 z5 z6
                have f0 := hr'.frozen 0
                have f1 := hr'.frozen 1
                have f2 := hr'.frozen 2
                have f3 := hr'.frozen 3
                have f4 := hr'.frozen 4
                have f5 := hr'.frozen 5
                have f6 := hr'.frozen 6
                have hh := held_put7 (P := Q) hr' rfl (hnc rfl).1 (hnc rfl).2
                refine ⟨put7 W g fun i => (Orc.vals Q.m Q.key Q.d.tb Q.d.pos (.slice n1 Q.d.nm.length m1) (.slice c1 Q.d.cl.length k1) Q.d.clash).getD i undef, .inl ?_, below_put7 hB hg, ?_⟩
                · clear hh hdep hin hout
                  unfold put7
                  unfold Orc.vals at ea ⊢
                  go_simp
                · intro j hj h
                  rcases j with _ | _ | _ | _ | _ | _ | _ | _ | _ | _ | _ | _ | _ | j
                  · exact h
                  · exact h
                  · exact h
                  · exact h
                  · exact h
                  · exact TupIs.late _ h
                  · exact TupIs.late _ h
                  · exact h
                  · exact AggIs.late _ h
                  · exact h
                  · exact ⟨g, dg, hg, hh⟩
                  · exact h
                  · exact absurd rfl hj
                  · exact h
              · intro x W hB hR
                have d11 := hR 11 (by decide) (by decide)
                have d13 := hR 13 (by decide) (by decide)
                obtain ⟨g, d10, hg, hh⟩ := hR 10 (by decide) (by decide)
                clear hR
                change x 11 = _ at d11
                change x 13 = _ at d13
                have hh : Held W g Q := hh
                simp only [putAll, Act.put, d10, d11, d13]
                go_wp2
                go_meet
                exact ⟨rfl, rfl, g, rfl, hg, hh, below_drew hB⟩
            case rest =>
              obtain ⟨w8, rfl⟩ : ∃ w8, w8 = wc := ⟨_, rfl⟩
              obtain ⟨rfl, rfl, g17, rfl, hg17, hQ17, hbx⟩ := hcut
              have q10 := Hq10.out.below hbx Hq10.out.lt
              have q14 := Hp14.out.below hbx Hp14.out.lt
              have hb8 := HbA.out.trans (hbx.mono HbA.out.size)
              obtain ⟨n4, m4, c4, k4, p17, hN8, hC8⟩ := hQ17
              have hh := held_put7 (P := Q) q10 rfl hN8 hC8
              have hkk : Q.key = o.key := by rw [hQk, hokey]
              have hmm : Q.m = o.m := by rw [hQm, hom]
              have hnl : Q.d.nm.length = P.d.nm.length := by rw [hQnm]
              rw [hkk, hmm] at hh
              have hng : w3.heap.size ≠ g17 := by have := Hq10.out.lt; omega
              have hPl : P.d.nm.length ≤ i + 1 := by rcases hPc with ⟨h, _⟩ | ⟨h, _⟩ <;> rw [h] <;> first | omega | (simp; omega)
              have hQl : Q.d.cl.length ≤ i + 1 := by rw [hPcl] at hQc; rcases hQc with ⟨h, _⟩ | ⟨h, _⟩ <;> rw [h] <;> first | omega | (simp; omega)
              have hQp : Q.d.pos ≤ 56 * (i + 1) := by rcases hQc with ⟨_, h⟩ | ⟨_, h, _⟩ <;> omega
              have hat : At w m K w3.heap.size (i + 1) _ := ⟨Q, hh, hQg, hQm, hQk, by rw [hQtb, hPtb, htb], by omega, hQl, hQp, below_put7 hb8 hg0⟩
              have Hat := Lib.hid hat
              unfold Orc.vals at p17
              rw [hkk, hmm] at p17
              have ya0 : w8.cell? ⟨w3.heap.size, 0, none⟩ = some (.int .i64 o.m) := q10.cell 0
              have ya1 : w8.cell? ⟨w3.heap.size, 1, none⟩ = some (.string o.key) := q10.cell 1
              have ya2 : w8.cell? ⟨w3.heap.size, 2, none⟩ = some (.string o.d.tb) := q10.cell 2
              have ya3 : w8.cell? ⟨w3.heap.size, 3, none⟩ = some (.int .i64 (o.d.pos : Int)) := q10.cell 3
              have ya4 : w8.cell? ⟨w3.heap.size, 4, none⟩ = some (.slice n1 o.d.nm.length m1) := q10.cell 4
              have ya5 : w8.cell? ⟨w3.heap.size, 5, none⟩ = some (.slice c1 o.d.cl.length k1) := q10.cell 5
              have ya6 : w8.cell? ⟨w3.heap.size, 6, none⟩ = some (.bool o.d.clash) := q10.cell 6
              have cf0 := q10.frozen 0
              have cf1 := q10.frozen 1
              have cf2 := q10.frozen 2
              have cf3 := q10.frozen 3
              have cf4 := q10.frozen 4
              have cf5 := q10.frozen 5
              have cf6 := q10.frozen 6
              have yb0 : w8.cell? ⟨g14, 0, none⟩ = some (.int .i64 P.m) := q14.cell 0
              have yb1 : w8.cell? ⟨g14, 1, none⟩ = some (.string P.key) := q14.cell 1
              have yb2 : w8.cell? ⟨g14, 2, none⟩ = some (.string P.d.tb) := q14.cell 2
              have yb3 : w8.cell? ⟨g14, 3, none⟩ = some (.int .i64 (P.d.pos : Int)) := q14.cell 3
              have yb4 : w8.cell? ⟨g14, 4, none⟩ = some (.slice n3 P.d.nm.length m3) := q14.cell 4
              have yb5 : w8.cell? ⟨g14, 5, none⟩ = some (.slice c3 P.d.cl.length k3') := q14.cell 5
              have yb6 : w8.cell? ⟨g14, 6, none⟩ = some (.bool P.d.clash) := q14.cell 6
              have yc0 : w8.cell? ⟨g17, 0, none⟩ = some (.int .i64 o.m) := p17.cell 0
              have yc1 : w8.cell? ⟨g17, 1, none⟩ = some (.string o.key) := p17.cell 1
              have yc2 : w8.cell? ⟨g17, 2, none⟩ = some (.string Q.d.tb) := p17.cell 2
              have yc3 : w8.cell? ⟨g17, 3, none⟩ = some (.int .i64 (Q.d.pos : Int)) := p17.cell 3
              have yc4 : w8.cell? ⟨g17, 4, none⟩ = some (.slice n4 Q.d.nm.length m4) := p17.cell 4
              have yc5 : w8.cell? ⟨g17, 5, none⟩ = some (.slice c4 Q.d.cl.length k4) := p17.cell 5
              have yc6 : w8.cell? ⟨g17, 6, none⟩ = some (.bool Q.d.clash) := p17.cell 6
              clear hat hh hN8 hC8 hb8 hbx q10 q14 p17 HN7 HC7 HbA Hq10 Hp14 HCl HTx
              have b1 : (P.d.nm.length : Int) ≤ 2000 := by omega
              have b2 : (Q.d.cl.length : Int) ≤ 2000 := by omega
              have b3 : (o.d.nm.length : Int) ≤ 2000 := by omega
              have b4 : (P.d.cl.length : Int) ≤ 2000 := by rw [hPcl]; omega
              have b5 : (Q.d.pos : Int) ≤ 2000 := by omega
              have b6 : (o.d.pos : Int) ≤ 2000 := by omega
              have b7 : (Q.d.nm.length : Int) = P.d.nm.length := by omega
              have key : ∃ a b : Nat, (a = 0 ∨ a = 1) ∧ (b = 0 ∨ b = 1) ∧ P.d.nm.length = o.d.nm.length + a ∧ Q.d.cl.length = P.d.cl.length + b ∧ (m = 1 → Q.d.pos = o.d.pos) ∧ (m = 2 → Q.d.pos = o.d.pos + (16 * a + 40 * b)) := by
                rcases hPc with ⟨e1, e2⟩ | ⟨e1, e2⟩ <;> rcases hQc with ⟨e3, e4⟩ | ⟨e3, e4, _⟩
                · exact ⟨0, 0, .inl rfl, .inl rfl, by rw [e1]; rfl, by rw [e3]; rfl, fun _ => by omega, fun _ => by omega⟩
                · exact ⟨0, 1, .inl rfl, .inr rfl, by rw [e1]; rfl, by rw [e3]; simp, fun h => by have := hd0 h; omega, fun h => by have := hd1 h; omega⟩
                · exact ⟨1, 0, .inr rfl, .inl rfl, by rw [e1]; simp, by rw [e3]; rfl, fun h => by have := hc0 h; omega, fun h => by have := hc1 h; omega⟩
                · exact ⟨1, 1, .inr rfl, .inr rfl, by rw [e1]; simp, by rw [e3]; simp, fun h => by have := hc0 h; have := hd0 h; omega, fun h => by have := hc1 h; have := hd1 h; omega⟩
              obtain ⟨aa, bb, haa, hbb, s1, s2, s3, s4⟩ := key
              have v1 : (P.d.nm.length : Int) - (o.d.nm.length : Int) = (aa : Int) := by omega
              have v2 : (Q.d.cl.length : Int) - (P.d.cl.length : Int) = (bb : Int) := by omega
              have v3 : m = 1 → (Q.d.pos : Int) - (o.d.pos : Int) = 0 := fun h => by have := s3 h; omega
              have v4 : m = 2 → (Q.d.pos : Int) - (o.d.pos : Int) = 16 * (aa : Int) + 40 * (bb : Int) := fun h => by have := s4 h; omega
              clear s1 s2 hPc hQc hc0 hc1 hd0 hd1 hQp hQl hPl hPcl hPtb hQtb hQnm hkk hmm hQk hokey hQm hom hPm hPk hnl htb hc16 hd40 hpl hQg hPg hgood hl1 hl2 hp1 hp2 hqs hts hSs hCs hpos hcl hnm e2 e3 l2 l3 hws hz0 hz1 hz2 hz3 hs
              have Hm' := Hm.out
              cases real
              · have v5 := v4 Hm'.symm
                clear v3 v4 Hm' s3 s4
                rcases haa with rfl | rfl <;> rcases hbb with rfl | rfl
                · have k1 : (P.d.nm.length : Int) - (o.d.nm.length : Int) = 0 := v1
                  have k2 : (Q.d.cl.length : Int) - (P.d.cl.length : Int) = 0 := v2
                  have k5 : (Q.d.pos : Int) - (o.d.pos : Int) = 0 := v5
                  clear v1 v2 v5
                  go_wp2
                  go_roundw
                  case rel => exact ⟨i + 1, by omega, rfl, Hat.out⟩
                  case measure => simp [intOf]; omega
                · have k1 : (P.d.nm.length : Int) - (o.d.nm.length : Int) = 0 := v1
                  have k2 : (Q.d.cl.length : Int) - (P.d.cl.length : Int) = 1 := v2
                  have k5 : (Q.d.pos : Int) - (o.d.pos : Int) = 40 := v5
                  clear v1 v2 v5
                  go_wp2
                  go_roundw
                  case rel => exact ⟨i + 1, by omega, rfl, Hat.out⟩
                  case measure => simp [intOf]; omega
                · have k1 : (P.d.nm.length : Int) - (o.d.nm.length : Int) = 1 := v1
                  have k2 : (Q.d.cl.length : Int) - (P.d.cl.length : Int) = 0 := v2
                  have k5 : (Q.d.pos : Int) - (o.d.pos : Int) = 16 := v5
                  clear v1 v2 v5
                  go_wp2
                  go_roundw
                  case rel => exact ⟨i + 1, by omega, rfl, Hat.out⟩
                  case measure => simp [intOf]; omega
                · have k1 : (P.d.nm.length : Int) - (o.d.nm.length : Int) = 1 := v1
                  have k2 : (Q.d.cl.length : Int) - (P.d.cl.length : Int) = 1 := v2
                  have k5 : (Q.d.pos : Int) - (o.d.pos : Int) = 56 := v5
                  clear v1 v2 v5
                  go_wp2
                  go_roundw
                  case rel => exact ⟨i + 1, by omega, rfl, Hat.out⟩
                  case measure => simp [intOf]; omega
              · have v5 := v3 Hm'.symm
                clear v3 v4 Hm' s3 s4
                rcases haa with rfl | rfl <;> rcases hbb with rfl | rfl
                · have k1 : (P.d.nm.length : Int) - (o.d.nm.length : Int) = 0 := v1
                  have k2 : (Q.d.cl.length : Int) - (P.d.cl.length : Int) = 0 := v2
                  have k5 : (Q.d.pos : Int) - (o.d.pos : Int) = 0 := v5
                  clear v1 v2 v5
                  go_wp2
                  go_roundw
                  case rel => exact ⟨i + 1, by omega, rfl, Hat.out⟩
                  case measure => simp [intOf]; omega
                · have k1 : (P.d.nm.length : Int) - (o.d.nm.length : Int) = 0 := v1
                  have k2 : (Q.d.cl.length : Int) - (P.d.cl.length : Int) = 1 := v2
                  have k5 : (Q.d.pos : Int) - (o.d.pos : Int) = 0 := v5
                  clear v1 v2 v5
                  go_wp2
                  go_roundw
                  case rel => exact ⟨i + 1, by omega, rfl, Hat.out⟩
                  case measure => simp [intOf]; omega
                · have k1 : (P.d.nm.length : Int) - (o.d.nm.length : Int) = 1 := v1
                  have k2 : (Q.d.cl.length : Int) - (P.d.cl.length : Int) = 0 := v2
                  have k5 : (Q.d.pos : Int) - (o.d.pos : Int) = 0 := v5
                  clear v1 v2 v5
                  go_wp2
                  go_roundw
                  case rel => exact ⟨i + 1, by omega, rfl, Hat.out⟩
                  case measure => simp [intOf]; omega
                · have k1 : (P.d.nm.length : Int) - (o.d.nm.length : Int) = 1 := v1
                  have k2 : (Q.d.cl.length : Int) - (P.d.cl.length : Int) = 1 := v2
                  have k5 : (Q.d.pos : Int) - (o.d.pos : Int) = 0 := v5
                  clear v1 v2 v5
                  go_wp2
                  go_roundw
                  case rel => exact ⟨i + 1, by omega, rfl, Hat.out⟩
                  case measure => simp [intOf]; omega
        · have hil' : ¬ (i : Int) < len := by omega
          have Hb := Lib.hid hAt.choose_spec.2.2.2.2.2.2.2.2
          clear hAt
          go_wp2
          go_ret
          exact ⟨rfl, Hb.out⟩
      · have h10' : ¬ (i : Int) < 10 := by omega
        have Hb := Lib.hid hAt.choose_spec.2.2.2.2.2.2.2.2
        clear hAt
        by_cases hil : i < len
        · have hil' : (i : Int) < len := by omega
          go_wp2
          go_ret
          exact ⟨rfl, Hb.out⟩
        · have hil' : ¬ (i : Int) < len := by omega
          go_wp2
          go_ret
          exact ⟨rfl, Hb.out⟩

theorem own : ownKnob Tryz.prog.godebug = none := by kernel_rfl
theorem lay : laidOutB Tryz.prog = true := by kernel_rfl

set_option maxRecDepth 100000 in
theorem lifted (os : Os) (started : os.Started) (H : Type) (enc : TypeId × Value → H) :
    ReturnsInHanded {} Tryz.checked os 7 .any (Rows.oracleDrawsSpec.pre6 enc Tryz.prog Tryz.f7 Rows.oracleDrawsRow.domain false) (Rows.oracleDrawsSpec.post enc Tryz.prog Tryz.f7 false true false false) := by
  refine returnsInHanded_of_change_shaped (C := Tryz.checked) own started (by kernel_rfl) Tryz.func7
    (ChangeSpec.witness6 (enc := enc) (C := Tryz.checked) false ⟨#[], #[.bool false, .int .i64 0, .slice none 0 0, .slice none 0 0], []⟩ 8 (by kernel_rfl) (by kernel_rfl) (by kernel_rfl) (by kernel_rfl)) ?_
  intro W base args ds gs before hval0 hW hcnd hsz0 hsh _
  have hval : ∀ (j : Nat) t v, Tryz.f7.params[j]? = some t → args[j]? = some v → Value.okWide Tryz.prog W .any base t v := hval0
  have hsz : (DataW.weightsEach Tryz.prog (Tryz.f7.params.toList ++ Rows.oracleDrawsSpec.plain.varTypes Tryz.prog) (ds ++ gs)).all (· ≤ reachBytes) = true := hsz0
  have hW' := hW
  obtain ⟨p, q, hA0, hV, rfl, hfz, hnd⟩ := hW
  have hA : DataW.TrodAll enc Tryz.prog W 0 (fun _ => true) true Tryz.f7.params.toList args.toList ds p := hA0
  rw [Tryz.params7] at hA hval hsz
  obtain ⟨v0, vs0, d0, ds0, p0, q0, hargs, rfl, rfl, h0, r0⟩ := trodAll_cons hA
  obtain ⟨v1, vs1, d1, ds1, p1, q1, rfl, rfl, rfl, h1, r1⟩ := trodAll_cons r0
  obtain ⟨v2, vs2, d2, ds2, p2, q2, rfl, rfl, rfl, h2, r2⟩ := trodAll_cons r1
  obtain ⟨v3, vs3, d3, ds3, p3, q3, rfl, rfl, rfl, h3, r3⟩ := trodAll_cons r2
  obtain ⟨rfl, rfl, rfl⟩ := trodAll_nil r3
  obtain rfl : args = #[v0, v1, v2, v3] := by cases args; simp_all
  obtain ⟨rfl, rfl⟩ := trodVars_none hV
  obtain ⟨a0, rfl, rfl, rfl⟩ := open_bool Tryz.underlying4 (hval 0 4 v0 rfl rfl) h0
  obtain ⟨a1, rfl, rfl, rfl, w1⟩ := open_int Tryz.underlying3 (hval 1 3 v1 rfl rfl) h1
  have k2 := ints_open Tryz.underlying55 Tryz.underlying3 (by kernel_rfl) (hval 2 55 v2 rfl rfl) h2
  have k3 := rows_open Tryz.underlying24 Tryz.underlying25 Tryz.underlying3 (by kernel_rfl) (by kernel_rfl) (hval 3 24 v3 rfl rfl) h3
  obtain ⟨kw, hkw⟩ := Sha.words_of hsh
  letI : Sha.Words := ⟨kw⟩
  have hRI : Sha.RoundIn W := hkw
  refine (walk a0 a1 (bounds_i64 w1) v2 v3 W hRI k2 k3).mono fun e W' ⟨he, hg⟩ => ?_
  subst he
  have hts : ∀ t ∈ Tryz.f7.params.toList, Tryz.prog.readableRec t = true ∧ t < Tryz.prog.types.size := by
    rw [Tryz.params7]
    intro t ht
    simp only [List.mem_cons, List.not_mem_nil, or_false] at ht
    rcases ht with rfl | rfl | rfl | rfl <;> exact ⟨by kernel_rfl, of_decide_eq_true (by kernel_rfl)⟩
  exact ⟨_, rfl, post_true lay hts (by kernel_rfl) Tryz.underlying4 rfl rfl hW' hg⟩

theorem proved : Rows.OracleDrawsSaid :=
  OpenClaim.holds_of_wide 7 Tryz.f7 rfl rfl rfl rfl rfl rfl rfl ⟨rfl, rfl, rfl, rfl, rfl⟩ rfl rfl rfl rfl rfl (by kernel_rfl) Tryz.func7 (by kernel_rfl)
    (of_decide_eq_true (by kernel_rfl)) (by unfold Func.isWrapper; first | (rw [if_pos (by decide +kernel)]; kernel_rfl) | (rw [if_neg (by decide +kernel)]; exact ⟨rfl, rfl⟩))
    (fun os started H enc _ => lifted os started H enc)
#print axioms proved

end Go.Proofs.YtjnolopnkecmdaaGreat.oracleDraws
