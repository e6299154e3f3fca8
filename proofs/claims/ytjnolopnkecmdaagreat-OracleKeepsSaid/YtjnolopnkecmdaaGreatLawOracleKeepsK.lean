/-
  Several texts in one: LawOracleKeeps.
-/
import Derived.Test.YtjnolopnkecmdaaGreatOD
import Derived.Test.YtjnolopnkecmdaaGreatOrcRK
import Derived.Test.YtjnolopnkecmdaaGreatDrwBK
import Derived.Test.YtjnolopnkecmdaaGreatKpsK
import Derived.Test.YtjnolopnkecmdaaGreatWA
import Derived.Test.YtjnolopnkecmdaaGreatGG
import Derived.Deep.CutRange
import Derived.Deep.RegionWith
import Derived.HandedShaped

/- For every mode, key, numbers drawn and raw questions the law OracleKeeps of layer 9 answers true and leaves its arguments as they were. Condition: none (whatever words the variable digest.round holds). -/
namespace Go.Proofs.YtjnolopnkecmdaaGreat.oracleKeeps
open Go.ChangeShapes Go.WideShapes Go.ChangeAt Go.RowKit Go.WideMaps

set_option maxRecDepth 100000 in
set_option maxHeartbeats 8000000 in
theorem walk [Sha.Words] (real : Bool) (key : Int) (hkey : -9223372036854775808 ≤ key ∧ key ≤ 9223372036854775807) (draws : Value) (small : Bool) (raw : Value) (w : World) (hR : Sha.RoundIn w) (hD : IntsIn draws w) (hQ : RowsIn 4 raw w) :
    Calls Tryz.prog 5 #[.bool real, .int .i64 key, draws, .bool small, raw] w fun e w' => e = .returned (.bool true) ∧ Below w.heap.size w w' := by
  have hAw := awake9_any w hR
  have hDr := fun W (hb : Below w.heap.size w W) => Draws_any draws small W (ints_below hD hb)
  have hOr := fun s (hs : s.size = 2000) W => Oracle_any real key hkey s 0 (by omega) (Nat.zero_le _) W
  obtain ⟨K, hK⟩ : ∃ K, keyB key = K := ⟨_, rfl⟩
  have hKs : K.size = 32 := by rw [← hK]; exact keyB_size key
  rw [hK] at hOr
  obtain ⟨m, hm⟩ : ∃ m : Int, (if real = true then 1 else 2) = m := ⟨_, rfl⟩
  have hm12 : m = 1 ∨ m = 2 := by rw [← hm]; cases real <;> simp
  rw [hm] at hOr
  obtain ⟨ao, len, cap, rfl, hlen, hraw⟩ := rows_one hQ
  obtain ⟨da, dl, dc, rfl⟩ : ∃ da dl dc, draws = .slice da dl dc := by
    obtain ⟨a, b, c, h, _⟩ := ints_one hD
    exact ⟨a, b, c, h⟩
  have hlen64 : (len : Int) ≤ 9223372036854775807 := by unfold maxLen at hlen; omega
  unfold Orc.vals at hOr
  have HAw := Lib.hid hAw
  have HDr := Lib.hid hDr
  have HOr := Lib.hid hOr
  have HR := Lib.hid hR
  have Hraw := Lib.hid hraw
  have HKs := Lib.hid hKs
  have Hm12 := Lib.hid hm12
  have Hm := Lib.hid hm
  clear hAw hDr hOr hR hraw hKs hK hD hQ hkey hm12 hm hlen
  go_enter Tryz.func5, Tryz.ntmps5
  go_wp2_with fail
  refine HAw.out.mono ?_
  rintro e w1 ⟨rfl, hb1⟩
  go_wp2_with fail
  refine (HDr.out _ hb1).mono ?_
  rintro e w2 ⟨s, hs, rfl, hb2⟩
  have hb02 := below_seq hb1 hb2
  clear hb1 hb2 HAw HDr
  go_wp2_with fail
  refine (HOr.out s hs _).mono ?_
  rintro e w3 ⟨rfl, hb3⟩
  have hb03 := below_seq hb02 hb3
  have hgood : (⟨m, K, Idl.fresh s 0⟩ : Orc).Good := ⟨Hm12.out, HKs.out, Idl.fresh_good (by omega) (Nat.zero_le _)⟩
  have hst := Kp.start w m K s w3 hb03 hgood hs
  have hg0 : w.heap.size ≤ w3.heap.size := hb03.size
  have Hst := Lib.hid hst
  clear hst hb02 hb03 hb3 HOr hgood
  go_wp2
  go_loopw [14, 15, 16] (fun v14 v15 vi wr => ∃ i : Nat, i ≤ 10 ∧ vi = .int .i64 (i : Int) ∧ Kp.At w m K s w3.heap.size i v14 v15 wr) (fun _ _ vi _ => 10 - (intOf vi).toNat)
  case atStart => exact ⟨0, by omega, rfl, Hst.out⟩
  case round =>
    clear Hst
    obtain ⟨i, hi, rfl, hAt⟩ := hrel
    by_cases h10 : i < 10
    · by_cases hil : i < len
      · have h10' : (i : Int) < 10 := by omega
        have hil' : (i : Int) < len := by omega
        obtain ⟨o, AL, LL, hheld, hgood, hom, hokey, htb, hnm, hcl, hpos, hreal, hbox, hAl, hLl, hAL, hAs, hLs, hnil, h14, h15, h13, hb⟩ := hAt
        obtain ⟨xa, xc, rfl⟩ := slice_of h14
        obtain ⟨ya, yc, rfl⟩ := slice_of h15
        obtain ⟨a, z0, z1, z2, z3, rfl, ⟨y0, y1, y2, y3⟩, hz0, hz1, hz2, hz3⟩ := Hraw.out i hil
        have x0 : wr.cell? (a.add (i * 4)) = some (.int .i64 z0) := cell_below hb y0
        have x1 : wr.cell? ⟨(a.add (i * 4)).block, (a.add (i * 4)).off + 1, none⟩ = some (.int .i64 z1) := cell_below hb y1
        have x2 : wr.cell? ⟨(a.add (i * 4)).block, (a.add (i * 4)).off + 2, none⟩ = some (.int .i64 z2) := cell_below hb y2
        have x3 : wr.cell? ⟨(a.add (i * 4)).block, (a.add (i * 4)).off + 3, none⟩ = some (.int .i64 z3) := cell_below hb y3
        clear y0 y1 y2 y3
        have hWd := fun W => Word_any z1 hz1 W
        have hTx := fun W => Text_any z0 hz0 W
        have hP2 := fun W => pick9_any z2 3 hz2 (by decide) W
        obtain ⟨k2, e2, l2⟩ := pick_nat z2 3 (by decide)
        change pickOf z2 3 = (k2 : Int) at e2
        have hP3 := fun W => pick9_any z3 4 hz3 (by decide) W
        obtain ⟨k3, e3, l3⟩ := pick_nat z3 4 (by decide)
        change pickOf z3 4 = (k3 : Int) at e3
        rw [e2] at hP2
        rw [e3] at hP3
        obtain ⟨hws, hw7⟩ := wordOf_size z1
        generalize wordOf z1 = word at *
        have hts : (textOf (pickOf z0 5).toNat).size = 24 := textOf_size _
        generalize textOf (pickOf z0 5).toNat = tx at *
        have hqs : (asked word k2 k3).size ≤ 100 := by rw [asked_size]; omega
        have hq16 : (asked word k2 k3).size ≠ 16 := by rw [asked_size]; omega
        have hl1 : o.d.nm.length ≠ 2000 := by omega
        have hp1 : o.m = 2 → o.d.pos + 16 ≤ o.d.tb.size := fun _ => by omega
        have hAk := fun W => Ask_ok word k2 k3 hws (by omega) (by omega) W
        obtain ⟨hPg, hSs, hSin, hPtb, hPcl, hPc⟩ := Orc.ask_step hgood (asked word k2 k3) hqs hl1 hp1
        have hL := fun nv cv W hRW hN hC => oracleLabel_all o hgood nv cv word k2 k3 hws (by omega) (by omega) hl1 hp1 W hRW hN hC
        have hPm : (o.ask (asked word k2 k3)).m = m := hom
        have hPk : (o.ask (asked word k2 k3)).key = K := hokey
        have hc16 : o.cost 16 ≤ 16 := by unfold Orc.cost; split <;> omega
        have hc0 : m = 1 → o.cost 16 = 0 := fun h => by unfold Orc.cost; rw [if_pos (hom.trans h)]
        generalize (o.wayL (asked word k2 k3)).1 = S at *
        generalize o.ask (asked word k2 k3) = P at *
        generalize asked word k2 k3 = q at *
        have hpl : P.d.pos ≤ o.d.pos + 16 := by rcases hPc with ⟨_, h⟩ | ⟨_, h⟩ <;> omega
        have hPnl : P.d.nm.length ≤ i + 1 := by rcases hPc with ⟨h, _⟩ | ⟨h, _⟩ <;> rw [h] <;> first | omega | (simp; omega)
        have hPsub : ∀ x ∈ o.d.nm, x ∈ P.d.nm := by rcases hPc with ⟨h, _⟩ | ⟨h, _⟩ <;> rw [h] <;> first | exact fun x hx => hx | exact fun x hx => List.mem_append_left _ hx
        have hPr : m = 1 → P.d.tb = s ∧ P.d.pos = 0 := fun h => ⟨by rw [hPtb]; exact (hreal h).1, by have h0 := hc0 h; have := (hreal h).2; rcases hPc with ⟨_, h⟩ | ⟨_, h⟩ <;> omega⟩
        have hl2 : P.d.cl.length ≠ 2000 := by rw [hPcl]; omega
        have hp2 : P.m = 2 → P.d.pos + 40 ≤ P.d.tb.size := fun _ => by rw [hPtb]; omega
        have hRt := fun nv cv W hN hC => oracleRight_all P hPg nv cv W hN hC
        obtain ⟨hQg, hCs, hCin, hQtb, hQnm, hQc⟩ := Orc.put_step hPg S tx hSs hts hl2 hp2
        have hCl := fun nv cv W hRW hN hC => oracleCell_all P hPg nv cv S tx hSs hts hl2 hp2 W hRW hN hC
        have hQm : (P.put S tx).m = m := hPm
        have hQk : (P.put S tx).key = K := hPk
        have hd40 : P.cost 40 ≤ 40 := by unfold Orc.cost; split <;> omega
        have hd0 : m = 1 → P.cost 40 = 0 := fun h => by unfold Orc.cost; rw [if_pos (hPm.trans h)]
        have hCb : m = 1 → (P.wayC S tx).1 = Orc.box K S tx := fun h => by
          rcases hQc with ⟨h1, _⟩ | ⟨_, _, h1⟩
          · rw [h1, hPcl] at hCin
            exact hbox h _ hCin
          · rw [h1 (hPm.trans h), hPk]
        generalize (P.wayC S tx).1 = C at *
        generalize P.put S tx = Q at *
        have hQcl : Q.d.cl.length ≤ i + 1 := by rw [hPcl] at hQc; rcases hQc with ⟨h, _⟩ | ⟨h, _⟩ <;> rw [h] <;> first | omega | (simp; omega)
        have hQp : Q.d.pos ≤ 56 * (i + 1) := by rcases hQc with ⟨_, h⟩ | ⟨_, h, _⟩ <;> omega
        have hQr : m = 1 → Q.d.tb = s ∧ Q.d.pos = 0 := fun h => ⟨by rw [hQtb]; exact (hPr h).1, by have h0 := hd0 h; have := (hPr h).2; rcases hQc with ⟨_, h⟩ | ⟨_, h, _⟩ <;> omega⟩
        have hQbox : m = 1 → ∀ c ∈ Q.d.cl, c.2.2 = Orc.box K c.1 c.2.1 := fun h c hc => by
          rw [hPcl] at hQc
          rcases hQc with ⟨h1, _⟩ | ⟨h1, _, _⟩
          · rw [h1] at hc
            exact hbox h c hc
          · rw [h1] at hc
            rcases List.mem_append.1 hc with hc | hc
            · exact hbox h c hc
            · rw [List.mem_singleton] at hc
              rw [hc]
              exact hCb h
        have hagain : Q.wayC S tx = (C, Q.d, 0) := by
          rcases Orc.wayC_cases hQg S tx hts (by omega) (fun h => by
            have : Q.d.tb.size = 2000 := by rw [hQtb, hPtb, htb]
            omega) with ⟨c, hc, h⟩ | ⟨hn, _⟩
          · have h1 := Idl.cell_found hQg.d hc
            have h2 := Idl.cell_found hQg.d hCin
            rw [h1] at h2
            rw [h, (Prod.mk.inj h2).1]
          · exact absurd (List.mem_map.2 ⟨_, hCin, rfl⟩) hn
        have hCl2 := fun nv cv W hRW hN hC => oracleCell_all Q hQg nv cv S tx hSs hts (by omega) (fun _ => by
            have : Q.d.tb.size = 2000 := by rw [hQtb, hPtb, htb]
            omega) W hRW hN hC
        unfold Orc.put at hCl2
        rw [hagain] at hCl2
        dsimp only at hCl2
        have hOp := fun nv cv W hRW hN hC => oracleOpen_all Q hQg nv cv S C hSs hCs W hRW hN hC
        have hX : ∃ X, Q.wayO S C = (X, 0) ∧ (Q.d.clash = false → X = tx) := by
          unfold Orc.wayO
          rcases hQg.m with h1 | h1
          · rw [if_pos h1]
            refine ⟨tx, ?_, fun _ => rfl⟩
            rw [hCb (hQm.symm.trans h1), hQk]
            exact Seal.opens_box _ _ _ _
          · rw [if_neg (by rw [h1]; decide)]
            exact Idl.opens_found hCin
        obtain ⟨X, hX1, hX2⟩ := hX
        rw [hX1] at hOp
        clear hl1 hp1 hl2 hp2 e2 e3 hws hw7 hz0 hz1 hz2 hz3
        have Hhnil := Lib.hid hnil
        clear hnil
        have Hhom := Lib.hid hom
        have Hhokey := Lib.hid hokey
        have Hhtb := Lib.hid htb
        have Hhnm := Lib.hid hnm
        have Hhcl := Lib.hid hcl
        have Hhpos := Lib.hid hpos
        have Hhreal := Lib.hid hreal
        have Hhbox := Lib.hid hbox
        have HhAl := Lib.hid hAl
        have HhLl := Lib.hid hLl
        have HhAL := Lib.hid hAL
        have HhAs := Lib.hid hAs
        have HhLs := Lib.hid hLs
        have Hhq16 := Lib.hid hq16
        have HhPtb := Lib.hid hPtb
        have HhPcl := Lib.hid hPcl
        have HhPc := Lib.hid hPc
        have HhPm := Lib.hid hPm
        have HhPk := Lib.hid hPk
        have Hhc16 := Lib.hid hc16
        have Hhc0 := Lib.hid hc0
        have Hhpl := Lib.hid hpl
        have HhPnl := Lib.hid hPnl
        have HhPsub := Lib.hid hPsub
        have HhPr := Lib.hid hPr
        have HhQtb := Lib.hid hQtb
        have HhQnm := Lib.hid hQnm
        have HhQc := Lib.hid hQc
        have HhQm := Lib.hid hQm
        have HhQk := Lib.hid hQk
        have Hhd40 := Lib.hid hd40
        have Hhd0 := Lib.hid hd0
        have HhCb := Lib.hid hCb
        have HhQcl := Lib.hid hQcl
        have HhQp := Lib.hid hQp
        have HhQr := Lib.hid hQr
        have HhQbox := Lib.hid hQbox
        have Hhagain := Lib.hid hagain
        have HhX1 := Lib.hid hX1
        have HhX2 := Lib.hid hX2
        have HhSin := Lib.hid hSin
        have HhCin := Lib.hid hCin
        have HhSs := Lib.hid hSs
        have HhCs := Lib.hid hCs
        have Hhts := Lib.hid hts
        have Hhqs := Lib.hid hqs
        have HhPg := Lib.hid hPg
        have HhQg := Lib.hid hQg
        have Hhgood := Lib.hid hgood
        clear hom hokey htb hnm hcl hpos hreal hbox hAl hLl hAL hAs hLs hq16 hPtb hPcl hPc hPm hPk hc16 hc0 hpl hPnl hPsub hPr hQtb hQnm hQc hQm hQk hd40 hd0 hCb hQcl hQp hQr hQbox hagain hX1 hX2 hSin hCin hSs hCs hts hqs hPg hQg hgood
        unfold Orc.agg at hL hCl hCl2 hOp hRt
        unfold Orc.vals at hL hCl hCl2 hOp hRt
        change ∀ nv cv W, Sha.RoundIn W → NmAt W 0 nv Q.d.nm → ClAt W 0 cv Q.d.cl → _ at hCl2
        have HL := Lib.hid hL
        have HCl := Lib.hid hCl
        have HCl2 := Lib.hid hCl2
        have HOp := Lib.hid hOp
        have HRt := Lib.hid hRt
        have HWd := Lib.hid hWd
        have HTx := Lib.hid hTx
        have HP2 := Lib.hid hP2
        have HP3 := Lib.hid hP3
        have HAk := Lib.hid hAk
        obtain ⟨n1, m1, c1, k1, p10, hN, hC⟩ := hheld
        have hg10 : w3.heap.size < wr.heap.size := p10.lt
        have hg10n : w3.heap.size ≠ wr.heap.size := by omega
        have hba := (Below.refl wr.heap.size wr).alloc (Nat.le_refl _) (.cells #[.int .i64 z0, .int .i64 z1, .int .i64 z2, .int .i64 z3] 25)
        have hbA := hb.alloc hb.size (.cells #[.int .i64 z0, .int .i64 z1, .int .i64 z2, .int .i64 z3] 25)
        have p12 := Row.new wr 25 #[.int .i64 z0, .int .i64 z1, .int .i64 z2, .int .i64 z3]
        have q10 := p10.below hba p10.lt
        have hN6 := owns_below hN hba
        have hC6 := owns_below hC hba
        have h14a : StrAt _ _ _ _ := owns_below h14 hba
        have h15a : StrAt _ _ _ _ := owns_below h15 hba
        have h13a := h13.below hba h13.lt
        unfold Orc.vals at q10 p10
        go_upto_region 10 with fail
        generalize wr.alloc (.cells #[.int .i64 z0, .int .i64 z1, .int .i64 z2, .int .i64 z3] 25) = W6 at *
        have u0 : W6.cell? ⟨w3.heap.size, 0, none⟩ = some (.int .i64 o.m) := q10.cell 0
        have u1 : W6.cell? ⟨w3.heap.size, 1, none⟩ = some (.string o.key) := q10.cell 1
        have u2 : W6.cell? ⟨w3.heap.size, 2, none⟩ = some (.string o.d.tb) := q10.cell 2
        have u3 : W6.cell? ⟨w3.heap.size, 3, none⟩ = some (.int .i64 (o.d.pos : Int)) := q10.cell 3
        have u4 : W6.cell? ⟨w3.heap.size, 4, none⟩ = some (.slice n1 o.d.nm.length m1) := q10.cell 4
        have u5 : W6.cell? ⟨w3.heap.size, 5, none⟩ = some (.slice c1 o.d.cl.length k1) := q10.cell 5
        have u6 : W6.cell? ⟨w3.heap.size, 6, none⟩ = some (.bool o.d.clash) := q10.cell 6
        have t0 : W6.cell? ⟨wr.heap.size, 0, none⟩ = some (.int .i64 z0) := p12.cell 0
        have t1 : W6.cell? ⟨wr.heap.size, 1, none⟩ = some (.int .i64 z1) := p12.cell 1
        have t2 : W6.cell? ⟨wr.heap.size, 2, none⟩ = some (.int .i64 z2) := p12.cell 2
        have t3 : W6.cell? ⟨wr.heap.size, 3, none⟩ = some (.int .i64 z3) := p12.cell 3
        have HN6 := Lib.hid hN6
        have HC6 := Lib.hid hC6
        have HbA := Lib.hid hbA
        have Hq10 := Lib.hid q10
        have Hp12 := Lib.hid p12
        have H14 := Lib.hid h14a
        have H15 := Lib.hid h15a
        have H13 := Lib.hid h13a
        clear hN6 hC6 hbA hba q10 p12 p10 hN hC hb hL hCl hCl2 hOp hRt hWd hTx hP2 hP3 hAk x0 x1 x2 x3 h14 h15 h13 h14a h15a h13a
        go_cut [18, 19] from 56 to 68 (fun v18 v19 wx => v18 = .string q ∧ v19 = .int .i64 0 ∧ Below W6.heap.size W6 wx)
        case first =>
          refine wp_region_any (by kernel_rfl) ?_
          change wpAny _ _ _ _ _ _ _ (World.drew W6)
          refine wpAny_head 15 [57, 58, 59, 60, 61, 62, 63, 64, 65, 66, 56, 67, 68, 18, 19] 0 #[true, true, true, true, true, true, true, true, true, true, true, true, true, true, true] (fun j v W => match j with
            | 0 => v = .pointer (some ⟨wr.heap.size, 1, none⟩)
            | 1 => v = .int .i64 z1
            | 2 => v = .string word
            | 3 => v = .pointer (some ⟨wr.heap.size, 2, none⟩)
            | 4 => v = .int .i64 z2
            | 5 => v = .int .i64 (k2 : Int)
            | 6 => v = .pointer (some ⟨wr.heap.size, 3, none⟩)
            | 7 => v = .int .i64 z3
            | 8 => v = .int .i64 (k3 : Int)
            | 9 => v = .tuple #[.string q, .int .i64 0]
            | 10 => v = .tuple #[.string q, .int .i64 0]
            | 11 => v = .string q
            | 12 => v = .int .i64 0
            | 13 => v = .string q
            | _ => v = .int .i64 0) (by kernel_rfl) (by kernel_rfl) (by kernel_rfl) (by kernel_rfl) ?_ ?_ ?_
          · intro j hj v W W' h hb
            rcases j with _ | _ | _ | _ | _ | _ | _ | _ | _ | _ | _ | _ | _ | _ | j
            all_goals first
              | exact h
              | (obtain ⟨g, h1, h2, h3⟩ := h; exact ⟨g, h1, h2, h3.below hb h3.lt⟩)
          · refine HSteps.cons rfl (fun x W ρ hB hdep hin hout hcon hfun => ?_) (HSteps.cons rfl (fun x W ρ hB hdep hin hout hcon hfun => ?_) (HSteps.cons rfl (fun x W ρ hB hdep hin hout hcon hfun => ?_) (HSteps.cons rfl (fun x W ρ hB hdep hin hout hcon hfun => ?_) (HSteps.cons rfl (fun x W ρ hB hdep hin hout hcon hfun => ?_) (HSteps.cons rfl (fun x W ρ hB hdep hin hout hcon hfun => ?_) (HSteps.cons rfl (fun x W ρ hB hdep hin hout hcon hfun => ?_) (HSteps.cons rfl (fun x W ρ hB hdep hin hout hcon hfun => ?_) (HSteps.cons rfl (fun x W ρ hB hdep hin hout hcon hfun => ?_) (HSteps.cons rfl (fun x W ρ hB hdep hin hout hcon hfun => ?_) (HSteps.cons rfl (fun x W ρ hB hdep hin hout hcon hfun => ?_) (HSteps.cons rfl (fun x W ρ hB hdep hin hout hcon hfun => ?_) (HSteps.cons rfl (fun x W ρ hB hdep hin hout hcon hfun => ?_) (HSteps.cons rfl (fun x W ρ hB hdep hin hout hcon hfun => ?_) (HSteps.cons rfl (fun x W ρ hB hdep hin hout hcon hfun => ?_) (HSteps.nil (Nat.le_refl _))))))))))))))))
            · skip
              have e17 := hout 17 (by decide)
              change ρ (.tmp 17) = .pointer (some ⟨wr.heap.size, 0, none⟩) at e17
              clear hdep hin hout
              refine Stepped.val ?_ rfl
              go_simp
            · skip
              have d0 := hdep ⟨0, .data⟩ (by simp) rfl
              have e57 := hin 0 57 rfl
              rw [show x 0 = _ from d0] at e57
              have v1 := cell_below hB t1
              clear hdep hin hout
              refine Stepped.val ?_ rfl
              go_simp
            · skip
              have d1 := hdep ⟨1, .data⟩ (by simp) rfl
              have e58 := hin 1 58 rfl
              rw [show x 1 = _ from d1] at e58
              clear hdep hin hout
              refine Stepped.call (f := 15) (args := #[.int .i64 z1]) ?_ ?_
              · go_simp
              · skip
                refine (HWd.out _).mono ?_
                rintro e W' ⟨rfl, hbx⟩
                exact ⟨_, rfl, hbx, rfl⟩
            · skip
              have e17 := hout 17 (by decide)
              change ρ (.tmp 17) = .pointer (some ⟨wr.heap.size, 0, none⟩) at e17
              clear hdep hin hout
              refine Stepped.val ?_ rfl
              go_simp
            · skip
              have d3 := hdep ⟨3, .data⟩ (by simp) rfl
              have e60 := hin 3 60 rfl
              rw [show x 3 = _ from d3] at e60
              have v1 := cell_below hB t2
              clear hdep hin hout
              refine Stepped.val ?_ rfl
              go_simp
            · skip
              have d4 := hdep ⟨4, .data⟩ (by simp) rfl
              have e61 := hin 4 61 rfl
              rw [show x 4 = _ from d4] at e61
              clear hdep hin hout
              refine Stepped.call (f := 11) (args := #[.int .i64 z2, .int .i64 3]) ?_ ?_
              · go_simp
              · skip
                refine (HP2.out _).mono ?_
                rintro e W' ⟨rfl, rfl⟩
                exact ⟨_, rfl, Below.refl _ _, rfl⟩
            · skip
              have e17 := hout 17 (by decide)
              change ρ (.tmp 17) = .pointer (some ⟨wr.heap.size, 0, none⟩) at e17
              clear hdep hin hout
              refine Stepped.val ?_ rfl
              go_simp
            · skip
              have d6 := hdep ⟨6, .data⟩ (by simp) rfl
              have e63 := hin 6 63 rfl
              rw [show x 6 = _ from d6] at e63
              have v1 := cell_below hB t3
              clear hdep hin hout
              refine Stepped.val ?_ rfl
              go_simp
            · skip
              have d7 := hdep ⟨7, .data⟩ (by simp) rfl
              have e64 := hin 7 64 rfl
              rw [show x 7 = _ from d7] at e64
              clear hdep hin hout
              refine Stepped.call (f := 11) (args := #[.int .i64 z3, .int .i64 4]) ?_ ?_
              · go_simp
              · skip
                refine (HP3.out _).mono ?_
                rintro e W' ⟨rfl, rfl⟩
                exact ⟨_, rfl, Below.refl _ _, rfl⟩
            · skip
              have d2 := hdep ⟨2, .data⟩ (by simp) rfl
              have e59 := hin 2 59 rfl
              rw [show x 2 = _ from d2] at e59
              have d5 := hdep ⟨5, .data⟩ (by simp) rfl
              have e62 := hin 5 62 rfl
              rw [show x 5 = _ from d5] at e62
              have d8 := hdep ⟨8, .data⟩ (by simp) rfl
              have e65 := hin 8 65 rfl
              rw [show x 8 = _ from d8] at e65
              clear hdep hin hout
              refine Stepped.call (f := 16) (args := #[.string word, .int .i64 (k2 : Int), .int .i64 (k3 : Int)]) ?_ ?_
              · go_simp
              · skip
                refine (HAk.out _).mono ?_
                rintro e W' ⟨rfl, hbx⟩
                exact ⟨_, rfl, hbx, rfl⟩
            · skip
              have d9 := hdep ⟨9, .data⟩ (by simp) rfl
              have e66 := hin 9 66 rfl
              rw [show x 9 = _ from d9] at e66
              clear hdep hin hout
              refine Stepped.val ?_ rfl
              go_simp
            · skip
              have d10 := hdep ⟨10, .data⟩ (by simp) rfl
              have e56 := hin 10 56 rfl
              rw [show x 10 = _ from d10] at e56
              clear hdep hin hout
              refine Stepped.val ?_ rfl
              go_simp
            · skip
              have d10 := hdep ⟨10, .data⟩ (by simp) rfl
              have e56 := hin 10 56 rfl
              rw [show x 10 = _ from d10] at e56
              clear hdep hin hout
              refine Stepped.val ?_ rfl
              go_simp
            · skip
              have d11 := hdep ⟨11, .data⟩ (by simp) rfl
              have e67 := hin 11 67 rfl
              rw [show x 11 = _ from d11] at e67
              clear hdep hin hout
              refine Stepped.val ?_ rfl
              go_simp
            · skip
              have d12 := hdep ⟨12, .data⟩ (by simp) rfl
              have e68 := hin 12 68 rfl
              rw [show x 12 = _ from d12] at e68
              clear hdep hin hout
              refine Stepped.val ?_ rfl
              go_simp
          · intro x W hB hR
            have d13 := hR 13 (by decide)
            have d14 := hR 14 (by decide)
            clear hR
            change x 13 = _ at d13
            change x 14 = _ at d14
            simp only [putAll, Act.put, d13, d14]
            refine wpAny_done (by kernel_rfl) ?_ _
            go_wp2
            go_meet
            exact ⟨rfl, rfl, below_drew hB⟩
        case rest =>
          obtain ⟨w7, rfl⟩ : ∃ w7, w7 = wc := ⟨_, rfl⟩
          obtain ⟨rfl, rfl, hbx⟩ := hcut
          have HbA7 := Lib.hid (HbA.out.trans (hbx.mono HbA.out.size))
          have q10 := Hq10.out.below hbx Hq10.out.lt
          have q12 := Hp12.out.below hbx Hp12.out.lt
          have HN7 := Lib.hid (owns_below HN6.out hbx)
          have HC7 := Lib.hid (owns_below HC6.out hbx)
          have H147 : Hid (StrAt w7 _ _ _) := Lib.hid (owns_below H14.out hbx)
          have H157 : Hid (StrAt w7 _ _ _) := Lib.hid (owns_below H15.out hbx)
          have H137 := Lib.hid (H13.out.below hbx H13.out.lt)
          clear u0 u1 u2 u3 u4 u5 u6 t0 t1 t2 t3 HbA Hq10 Hp12 HN6 HC6 H14 H15 H13 hbx HAk
          go_upto_region 11 with fail
          have u0 : w7.cell? ⟨w3.heap.size, 0, none⟩ = some (.int .i64 o.m) := q10.cell 0
          have u1 : w7.cell? ⟨w3.heap.size, 1, none⟩ = some (.string o.key) := q10.cell 1
          have u2 : w7.cell? ⟨w3.heap.size, 2, none⟩ = some (.string o.d.tb) := q10.cell 2
          have u3 : w7.cell? ⟨w3.heap.size, 3, none⟩ = some (.int .i64 (o.d.pos : Int)) := q10.cell 3
          have u4 : w7.cell? ⟨w3.heap.size, 4, none⟩ = some (.slice n1 o.d.nm.length m1) := q10.cell 4
          have u5 : w7.cell? ⟨w3.heap.size, 5, none⟩ = some (.slice c1 o.d.cl.length k1) := q10.cell 5
          have u6 : w7.cell? ⟨w3.heap.size, 6, none⟩ = some (.bool o.d.clash) := q10.cell 6
          have t0 : w7.cell? ⟨wr.heap.size, 0, none⟩ = some (.int .i64 z0) := q12.cell 0
          have t1 : w7.cell? ⟨wr.heap.size, 1, none⟩ = some (.int .i64 z1) := q12.cell 1
          have t2 : w7.cell? ⟨wr.heap.size, 2, none⟩ = some (.int .i64 z2) := q12.cell 2
          have t3 : w7.cell? ⟨wr.heap.size, 3, none⟩ = some (.int .i64 z3) := q12.cell 3
          have Hq10 := Lib.hid q10
          have Hp12 := Lib.hid q12
          clear q10 q12
          go_cut [20, 21, 22] from 69 to 83 (fun v20 v21 v22 wx => v20 = .string S ∧ v22 = .int .i64 0 ∧ ∃ g, v21 = .pointer (some ⟨g, 0, none⟩) ∧ w7.heap.size ≤ g ∧ Held wx g P ∧ Below w7.heap.size w7 wx)
          case first =>
            refine wp_region_any (by kernel_rfl) ?_
            change wpAny _ _ _ _ _ _ _ (World.drew w7)
            refine wpAny_stores 17 [70, 71, 72, 73, 74, 75, 76, 77, 78, 79, 80, 69, 81, 82, 83, 21, 20, 100000, 22] (fun b j v W => match j with
              | 0 => v = .agg #[.int .i64 o.m, .string o.key, .string o.d.tb, .int .i64 (o.d.pos : Int), .slice n1 o.d.nm.length m1, .slice c1 o.d.cl.length k1, .bool o.d.clash]
              | 1 => v = .pointer (some ⟨wr.heap.size, 1, none⟩)
              | 2 => v = .int .i64 z1
              | 3 => v = .string word
              | 4 => v = .pointer (some ⟨wr.heap.size, 2, none⟩)
              | 5 => v = .int .i64 z2
              | 6 => v = .int .i64 (k2 : Int)
              | 7 => v = .pointer (some ⟨wr.heap.size, 3, none⟩)
              | 8 => v = .int .i64 z3
              | 9 => v = .int .i64 (k3 : Int)
              | 10 => TupIs b S P v W
              | 11 => TupIs b S P v W
              | 12 => v = .string S
              | 13 => AggIs b P v W
              | 14 => v = .int .i64 0
              | 15 => CellIs b w7.heap.size P v W
              | 16 => v = .string S
              | 17 => True
              | _ => v = .int .i64 0) 233 (by kernel_rfl) (by kernel_rfl) (by decide) ?_ ?_ ?_ ?_
            · intro b j v W W' h hb
              rcases j with _ | _ | _ | _ | _ | _ | _ | _ | _ | _ | _ | _ | _ | _ | _ | _ | _ | _ | j
              · exact h
              · exact h
              · exact h
              · exact h
              · exact h
              · exact h
              · exact h
              · exact h
              · exact h
              · exact h
              · exact TupIs.mono h hb
              · exact TupIs.mono h hb
              · exact h
              · exact AggIs.mono h hb
              · exact h
              · exact CellIs.mono h hb
              · exact h
              · exact h
              · exact h
            · refine ASteps.ahead rfl (by kernel_rfl) (fun x W ρ hB hdep hin hout hcon hfun => ?_) (ASteps.ahead rfl (by kernel_rfl) (fun x W ρ hB hdep hin hout hcon hfun => ?_) (ASteps.ahead rfl (by kernel_rfl) (fun x W ρ hB hdep hin hout hcon hfun => ?_) (ASteps.ahead rfl (by kernel_rfl) (fun x W ρ hB hdep hin hout hcon hfun => ?_) (ASteps.ahead rfl (by kernel_rfl) (fun x W ρ hB hdep hin hout hcon hfun => ?_) (ASteps.ahead rfl (by kernel_rfl) (fun x W ρ hB hdep hin hout hcon hfun => ?_) (ASteps.ahead rfl (by kernel_rfl) (fun x W ρ hB hdep hin hout hcon hfun => ?_) (ASteps.ahead rfl (by kernel_rfl) (fun x W ρ hB hdep hin hout hcon hfun => ?_) (ASteps.ahead rfl (by kernel_rfl) (fun x W ρ hB hdep hin hout hcon hfun => ?_) (ASteps.ahead rfl (by kernel_rfl) (fun x W ρ hB hdep hin hout hcon hfun => ?_) (ASteps.ahead rfl (by kernel_rfl) (fun x W ρ hB hdep hin hout hcon hfun => ?_) (ASteps.ahead rfl (by kernel_rfl) (fun x W ρ hB hdep hin hout hcon hfun => ?_) (ASteps.ahead rfl (by kernel_rfl) (fun x W ρ hB hdep hin hout hcon hfun => ?_) (ASteps.ahead rfl (by kernel_rfl) (fun x W ρ hB hdep hin hout hcon hfun => ?_) (ASteps.free rfl (fun b x W ρ hB hdep hin hout hcon hfun => ?_) (ASteps.ahead rfl (by kernel_rfl) (fun x W ρ hB hdep hin hout hcon hfun => ?_) (ASteps.ahead rfl (by kernel_rfl) (fun x W ρ hB hdep hin hout hcon hfun => ?_) (ASteps.skip (ASteps.free rfl (fun b x W ρ hB hdep hin hout hcon hfun => ?_) (ASteps.nil (by decide))))))))))))))))))))
              · skip
                have e12 := hout 12 (by decide)
                change ρ (.tmp 12) = .pointer (some ⟨w3.heap.size, 0, none⟩) at e12
                have v0 := cell_below hB u0
                have v1 := cell_below hB u1
                have v2 := cell_below hB u2
                have v3 := cell_below hB u3
                have v4 := cell_below hB u4
                have v5 := cell_below hB u5
                have v6 := cell_below hB u6
                clear hdep hin hout
                refine Stepped.val ?_ rfl
                go_simp
              · skip
                have e17 := hout 17 (by decide)
                change ρ (.tmp 17) = .pointer (some ⟨wr.heap.size, 0, none⟩) at e17
                clear hdep hin hout
                refine Stepped.val ?_ rfl
                go_simp
              · skip
                have d1 := hdep ⟨1, .data⟩ (by simp) rfl (by decide)
                have e71 := hin 1 71 rfl (by decide)
                rw [show x 1 = _ from d1] at e71
                have v1 := cell_below hB t1
                clear hdep hin hout
                refine Stepped.val ?_ rfl
                go_simp
              · skip
                have d2 := hdep ⟨2, .data⟩ (by simp) rfl (by decide)
                have e72 := hin 2 72 rfl (by decide)
                rw [show x 2 = _ from d2] at e72
                clear hdep hin hout
                refine Stepped.call (f := 15) (args := #[.int .i64 z1]) ?_ ?_
                · go_simp
                · skip
                  refine (HWd.out _).mono ?_
                  rintro e W' ⟨rfl, hbx⟩
                  exact ⟨_, rfl, hbx, rfl⟩
              · skip
                have e17 := hout 17 (by decide)
                change ρ (.tmp 17) = .pointer (some ⟨wr.heap.size, 0, none⟩) at e17
                clear hdep hin hout
                refine Stepped.val ?_ rfl
                go_simp
              · skip
                have d4 := hdep ⟨4, .data⟩ (by simp) rfl (by decide)
                have e74 := hin 4 74 rfl (by decide)
                rw [show x 4 = _ from d4] at e74
                have v1 := cell_below hB t2
                clear hdep hin hout
                refine Stepped.val ?_ rfl
                go_simp
              · skip
                have d5 := hdep ⟨5, .data⟩ (by simp) rfl (by decide)
                have e75 := hin 5 75 rfl (by decide)
                rw [show x 5 = _ from d5] at e75
                clear hdep hin hout
                refine Stepped.call (f := 11) (args := #[.int .i64 z2, .int .i64 3]) ?_ ?_
                · go_simp
                · skip
                  refine (HP2.out _).mono ?_
                  rintro e W' ⟨rfl, rfl⟩
                  exact ⟨_, rfl, Below.refl _ _, rfl⟩
              · skip
                have e17 := hout 17 (by decide)
                change ρ (.tmp 17) = .pointer (some ⟨wr.heap.size, 0, none⟩) at e17
                clear hdep hin hout
                refine Stepped.val ?_ rfl
                go_simp
              · skip
                have d7 := hdep ⟨7, .data⟩ (by simp) rfl (by decide)
                have e77 := hin 7 77 rfl (by decide)
                rw [show x 7 = _ from d7] at e77
                have v1 := cell_below hB t3
                clear hdep hin hout
                refine Stepped.val ?_ rfl
                go_simp
              · skip
                have d8 := hdep ⟨8, .data⟩ (by simp) rfl (by decide)
                have e78 := hin 8 78 rfl (by decide)
                rw [show x 8 = _ from d8] at e78
                clear hdep hin hout
                refine Stepped.call (f := 11) (args := #[.int .i64 z3, .int .i64 4]) ?_ ?_
                · go_simp
                · skip
                  refine (HP3.out _).mono ?_
                  rintro e W' ⟨rfl, rfl⟩
                  exact ⟨_, rfl, Below.refl _ _, rfl⟩
              · skip
                have d0 := hdep ⟨0, .data⟩ (by simp) rfl (by decide)
                have e70 := hin 0 70 rfl (by decide)
                rw [show x 0 = _ from d0] at e70
                have d3 := hdep ⟨3, .data⟩ (by simp) rfl (by decide)
                have e73 := hin 3 73 rfl (by decide)
                rw [show x 3 = _ from d3] at e73
                have d6 := hdep ⟨6, .data⟩ (by simp) rfl (by decide)
                have e76 := hin 6 76 rfl (by decide)
                rw [show x 6 = _ from d6] at e76
                have d9 := hdep ⟨9, .data⟩ (by simp) rfl (by decide)
                have e79 := hin 9 79 rfl (by decide)
                rw [show x 9 = _ from d9] at e79
                clear hdep hin hout
                refine Stepped.call (f := 18) (args := #[.agg #[.int .i64 o.m, .string o.key, .string o.d.tb, .int .i64 (o.d.pos : Int), .slice n1 o.d.nm.length m1, .slice c1 o.d.cl.length k1, .bool o.d.clash], .string word, .int .i64 (k2 : Int), .int .i64 (k3 : Int)]) ?_ ?_
                · go_simp
                · skip
                  refine (HL.out _ _ W (HR.out.below (HbA7.out.trans ((below_drew hB).mono HbA7.out.size))) (owns_below HN7.out (below_drew hB)) (owns_below HC7.out (below_drew hB))).mono ?_
                  rintro e W' ⟨nv, cv, rfl, hn', hc', hbx⟩
                  obtain ⟨n2, m2, rfl⟩ := slice_of hn'
                  obtain ⟨c2, k2', rfl⟩ := slice_of hc'
                  exact ⟨_, rfl, hbx, n2, m2, c2, k2', rfl, fun _ => ⟨ownsRow_weak hn' (Nat.zero_le _), ownsRow_weak hc' (Nat.zero_le _)⟩⟩
              · skip
                have d10 := hdep ⟨10, .data⟩ (by simp) rfl (by decide)
                have e80 := hin 10 80 rfl (by decide)
                obtain ⟨n1, m1, c1, k1, d10, hnc⟩ := d10
                rw [show x 10 = _ from d10] at e80
                unfold Orc.vals at e80
                clear hdep hin hout
                refine Stepped.val (v := .tuple #[.string S, .agg (Orc.vals P.m P.key P.d.tb P.d.pos (.slice n1 P.d.nm.length m1) (.slice c1 P.d.cl.length k1) P.d.clash), .int .i64 0]) ?_ ⟨n1, m1, c1, k1, rfl, hnc⟩
                unfold Orc.vals
                go_simp
              · skip
                have d11 := hdep ⟨11, .data⟩ (by simp) rfl (by decide)
                have e69 := hin 11 69 rfl (by decide)
                obtain ⟨n1, m1, c1, k1, d11, hnc⟩ := d11
                rw [show x 11 = _ from d11] at e69
                unfold Orc.vals at e69
                clear hdep hin hout
                refine Stepped.val ?_ rfl
                go_simp
              · skip
                have d11 := hdep ⟨11, .data⟩ (by simp) rfl (by decide)
                have e69 := hin 11 69 rfl (by decide)
                obtain ⟨n1, m1, c1, k1, d11, hnc⟩ := d11
                rw [show x 11 = _ from d11] at e69
                unfold Orc.vals at e69
                clear hdep hin hout
                refine Stepped.val (v := .agg (Orc.vals P.m P.key P.d.tb P.d.pos (.slice n1 P.d.nm.length m1) (.slice c1 P.d.cl.length k1) P.d.clash)) ?_ ⟨n1, m1, c1, k1, rfl, hnc⟩
                unfold Orc.vals
                go_simp
              · skip
                have d11 := hdep ⟨11, .data⟩ (by simp) rfl (by decide)
                have e69 := hin 11 69 rfl (by decide)
                obtain ⟨n1, m1, c1, k1, d11, hnc⟩ := d11
                rw [show x 11 = _ from d11] at e69
                unfold Orc.vals at e69
                clear hdep hin hout
                refine Stepped.val ?_ rfl
                go_simp
              · skip
                clear hdep hin hout
                refine Stepped.grow (v := .pointer (some ⟨W.heap.size, 0, none⟩)) (w' := W.alloc (.cells orcZ 31)) ?_ ((Below.refl _ _).alloc (Nat.le_refl _) _) ⟨_, rfl, hB.size, Row.new W _ _⟩
                unfold orcZ
                go_simp
              · skip
                have d12 := hdep ⟨12, .data⟩ (by simp) rfl (by decide)
                have e81 := hin 12 81 rfl (by decide)
                rw [show x 12 = _ from d12] at e81
                clear hdep hin hout
                refine Stepped.val ?_ rfl
                go_simp
              · skip
                have d14 := hdep ⟨14, .data⟩ (by simp) rfl (by decide)
                have e83 := hin 14 83 rfl (by decide)
                rw [show x 14 = _ from d14] at e83
                clear hdep hin hout
                refine Stepped.val ?_ rfl
                go_simp
            · intro o ho x W ρ hB hdep hin hout hcon
              cases ho
              obtain ⟨g, dg, hg, hr⟩ := hdep ⟨15, .data⟩ (by simp) rfl
              obtain ⟨n1, m1, c1, k1, da, hnc⟩ := hdep ⟨13, .data⟩ (by simp) rfl
              have eg := hin 15 21 rfl (by decide)
              have ea := hin 13 82 rfl (by decide)
              rw [show x 15 = _ from dg] at eg
              rw [show x 13 = _ from da] at ea
              have hr' : Row W g 31 orcZ := hr
              have z0 := hr'.cell 0
              have z1 := hr'.cell 1
              have z2 := hr'.cell 2
              have z3 := hr'.cell 3
              have z4 := hr'.cell 4
              have z5 := hr'.cell 5
              have z6 := hr'.cell 6
              change World.cell? _ _ = some _ at z0 z1 z2 z3 z4 z5 z6
              have f0 := hr'.frozen 0
              have f1 := hr'.frozen 1
              have f2 := hr'.frozen 2
              have f3 := hr'.frozen 3
              have f4 := hr'.frozen 4
              have f5 := hr'.frozen 5
              have f6 := hr'.frozen 6
              have hh := held_put7 (P := P) hr' rfl (hnc rfl).1 (hnc rfl).2
              refine ⟨put7 W g fun i => (Orc.vals P.m P.key P.d.tb P.d.pos (.slice n1 P.d.nm.length m1) (.slice c1 P.d.cl.length k1) P.d.clash).getD i undef, .inl ?_, below_put7 hB hg, ?_⟩
              · clear hh hdep hin hout
                unfold put7
                unfold Orc.vals at ea ⊢
                go_simp
              · intro j hj h
                rcases j with _ | _ | _ | _ | _ | _ | _ | _ | _ | _ | _ | _ | _ | _ | _ | _ | _ | _ | j
                · exact h
                · exact h
                · exact h
                · exact h
                · exact h
                · exact h
                · exact h
                · exact h
                · exact h
                · exact h
                · exact TupIs.late _ h
                · exact TupIs.late _ h
                · exact h
                · exact AggIs.late _ h
                · exact h
                · exact ⟨g, dg, hg, hh⟩
                · exact h
                · exact absurd rfl hj
                · exact h
            · intro x W hB hR
              have d16 := hR 16 (by decide) (by decide)
              have d18 := hR 18 (by decide) (by decide)
              obtain ⟨g, d15, hg, hh⟩ := hR 15 (by decide) (by decide)
              clear hR
              change x 16 = _ at d16
              change x 18 = _ at d18
              have hh : Held W g P := hh
              simp only [putAll, Act.put, d15, d16, d18]
              go_wp2
              go_meet
              exact ⟨rfl, rfl, g, rfl, hg, hh, below_drew hB⟩
          case rest =>
            obtain ⟨w8, rfl⟩ : ∃ w8, w8 = wc := ⟨_, rfl⟩
            obtain ⟨rfl, rfl, g21, rfl, hg21, hP21, hbx⟩ := hcut
            have HbA8 := Lib.hid (HbA7.out.trans (hbx.mono HbA7.out.size))
            have Hq10b := Lib.hid (Hq10.out.below hbx Hq10.out.lt)
            have Hp12b := Lib.hid (Hp12.out.below hbx Hp12.out.lt)
            have H148 : Hid (StrAt w8 _ _ _) := Lib.hid (owns_below H147.out hbx)
            have H158 : Hid (StrAt w8 _ _ _) := Lib.hid (owns_below H157.out hbx)
            have H138 := Lib.hid (H137.out.below hbx H137.out.lt)
            obtain ⟨n3, m3, c3, k3', p21, hN8, hC8⟩ := hP21
            unfold Orc.vals at p21
            have hg21w : w3.heap.size ≠ g21 := by have := Hq10.out.lt; omega
            clear u0 u1 u2 u3 u4 u5 u6 t0 t1 t2 t3 HbA7 Hq10 Hp12 HN7 HC7 H147 H157 H137 hbx HL HP2 HP3 HWd
            have u0 : w8.cell? ⟨g21, 0, none⟩ = some (.int .i64 P.m) := p21.cell 0
            have u1 : w8.cell? ⟨g21, 1, none⟩ = some (.string P.key) := p21.cell 1
            have u2 : w8.cell? ⟨g21, 2, none⟩ = some (.string P.d.tb) := p21.cell 2
            have u3 : w8.cell? ⟨g21, 3, none⟩ = some (.int .i64 (P.d.pos : Int)) := p21.cell 3
            have u4 : w8.cell? ⟨g21, 4, none⟩ = some (.slice n3 P.d.nm.length m3) := p21.cell 4
            have u5 : w8.cell? ⟨g21, 5, none⟩ = some (.slice c3 P.d.cl.length k3') := p21.cell 5
            have u6 : w8.cell? ⟨g21, 6, none⟩ = some (.bool P.d.clash) := p21.cell 6
            have Hp21 := Lib.hid p21
            have HN8 := Lib.hid hN8
            have HC8 := Lib.hid hC8
            clear p21 hN8 hC8
            have s16 : (S.size : Int) = 16 := by have := HhSs.out; omega
            go_wp2_with fail
            refine (HRt.out _ _ _ HN8.out HC8.out).mono ?_
            rintro e w9 ⟨rfl, hb9⟩
            have HbA9 := Lib.hid (HbA8.out.trans (hb9.mono HbA8.out.size))
            have Hq10c := Lib.hid (Hq10b.out.below hb9 Hq10b.out.lt)
            have q12 := Hp12b.out.below hb9 Hp12b.out.lt
            have H149 : Hid (StrAt w9 _ _ _) := Lib.hid (owns_below H148.out hb9)
            have H159 : Hid (StrAt w9 _ _ _) := Lib.hid (owns_below H158.out hb9)
            have H139 := Lib.hid (H138.out.below hb9 H138.out.lt)
            have p21 := Hp21.out.below hb9 Hp21.out.lt
            have HN9 := Lib.hid (owns_below HN8.out hb9)
            have HC9 := Lib.hid (owns_below HC8.out hb9)
            clear u0 u1 u2 u3 u4 u5 u6 HbA8 Hq10b Hp12b H148 H158 H138 hb9 Hp21 HN8 HC8 HRt
            go_upto_region 14 with fail
            have u0 : w9.cell? ⟨g21, 0, none⟩ = some (.int .i64 P.m) := p21.cell 0
            have u1 : w9.cell? ⟨g21, 1, none⟩ = some (.string P.key) := p21.cell 1
            have u2 : w9.cell? ⟨g21, 2, none⟩ = some (.string P.d.tb) := p21.cell 2
            have u3 : w9.cell? ⟨g21, 3, none⟩ = some (.int .i64 (P.d.pos : Int)) := p21.cell 3
            have u4 : w9.cell? ⟨g21, 4, none⟩ = some (.slice n3 P.d.nm.length m3) := p21.cell 4
            have u5 : w9.cell? ⟨g21, 5, none⟩ = some (.slice c3 P.d.cl.length k3') := p21.cell 5
            have u6 : w9.cell? ⟨g21, 6, none⟩ = some (.bool P.d.clash) := p21.cell 6
            have t0 : w9.cell? ⟨wr.heap.size, 0, none⟩ = some (.int .i64 z0) := q12.cell 0
            have Hp12 := Lib.hid q12
            clear p21 q12
            go_cut [23, 24, 25] from 100 to 109 (fun v23 v24 v25 wx => v23 = .string C ∧ v25 = .int .i64 0 ∧ ∃ g, v24 = .pointer (some ⟨g, 0, none⟩) ∧ w9.heap.size ≤ g ∧ Held wx g Q ∧ Below w9.heap.size w9 wx)
            case first =>
              refine wp_region_any (by kernel_rfl) ?_
              change wpAny _ _ _ _ _ _ _ (World.drew w9)
              refine wpAny_stores 12 [101, 102, 103, 104, 105, 106, 100, 107, 108, 109, 24, 23, 100000, 25] (fun b j v W => match j with
                | 0 => v = .agg #[.int .i64 P.m, .string P.key, .string P.d.tb, .int .i64 (P.d.pos : Int), .slice n3 P.d.nm.length m3, .slice c3 P.d.cl.length k3', .bool P.d.clash]
                | 1 => v = .string S
                | 2 => v = .pointer (some ⟨wr.heap.size, 0, none⟩)
                | 3 => v = .int .i64 z0
                | 4 => v = .string tx
                | 5 => TupIs b C Q v W
                | 6 => TupIs b C Q v W
                | 7 => v = .string C
                | 8 => AggIs b Q v W
                | 9 => v = .int .i64 0
                | 10 => CellIs b w9.heap.size Q v W
                | 11 => v = .string C
                | 12 => True
                | _ => v = .int .i64 0) 233 (by kernel_rfl) (by kernel_rfl) (by decide) ?_ ?_ ?_ ?_
              · intro b j v W W' h hb
                rcases j with _ | _ | _ | _ | _ | _ | _ | _ | _ | _ | _ | _ | _ | j
                · exact h
                · exact h
                · exact h
                · exact h
                · exact h
                · exact TupIs.mono h hb
                · exact TupIs.mono h hb
                · exact h
                · exact AggIs.mono h hb
                · exact h
                · exact CellIs.mono h hb
                · exact h
                · exact h
                · exact h
              · refine ASteps.ahead rfl (by kernel_rfl) (fun x W ρ hB hdep hin hout hcon hfun => ?_) (ASteps.ahead rfl (by kernel_rfl) (fun x W ρ hB hdep hin hout hcon hfun => ?_) (ASteps.ahead rfl (by kernel_rfl) (fun x W ρ hB hdep hin hout hcon hfun => ?_) (ASteps.ahead rfl (by kernel_rfl) (fun x W ρ hB hdep hin hout hcon hfun => ?_) (ASteps.ahead rfl (by kernel_rfl) (fun x W ρ hB hdep hin hout hcon hfun => ?_) (ASteps.ahead rfl (by kernel_rfl) (fun x W ρ hB hdep hin hout hcon hfun => ?_) (ASteps.ahead rfl (by kernel_rfl) (fun x W ρ hB hdep hin hout hcon hfun => ?_) (ASteps.ahead rfl (by kernel_rfl) (fun x W ρ hB hdep hin hout hcon hfun => ?_) (ASteps.ahead rfl (by kernel_rfl) (fun x W ρ hB hdep hin hout hcon hfun => ?_) (ASteps.free rfl (fun b x W ρ hB hdep hin hout hcon hfun => ?_) (ASteps.ahead rfl (by kernel_rfl) (fun x W ρ hB hdep hin hout hcon hfun => ?_) (ASteps.ahead rfl (by kernel_rfl) (fun x W ρ hB hdep hin hout hcon hfun => ?_) (ASteps.skip (ASteps.free rfl (fun b x W ρ hB hdep hin hout hcon hfun => ?_) (ASteps.nil (by decide)))))))))))))))
                · skip
                  have e21 := hout 21 (by decide)
                  change ρ (.tmp 21) = .pointer (some ⟨g21, 0, none⟩) at e21
                  have v0 := cell_below hB u0
                  have v1 := cell_below hB u1
                  have v2 := cell_below hB u2
                  have v3 := cell_below hB u3
                  have v4 := cell_below hB u4
                  have v5 := cell_below hB u5
                  have v6 := cell_below hB u6
                  clear hdep hin hout
                  refine Stepped.val ?_ rfl
                  go_simp
                · skip
                  have e20 := hout 20 (by decide)
                  change ρ (.tmp 20) = .string S at e20
                  clear hdep hin hout
                  refine Stepped.val ?_ rfl
                  go_simp
                · skip
                  have e17 := hout 17 (by decide)
                  change ρ (.tmp 17) = .pointer (some ⟨wr.heap.size, 0, none⟩) at e17
                  clear hdep hin hout
                  refine Stepped.val ?_ rfl
                  go_simp
                · skip
                  have d2 := hdep ⟨2, .data⟩ (by simp) rfl (by decide)
                  have e103 := hin 2 103 rfl (by decide)
                  rw [show x 2 = _ from d2] at e103
                  have v1 := cell_below hB t0
                  clear hdep hin hout
                  refine Stepped.val ?_ rfl
                  go_simp
                · skip
                  have d3 := hdep ⟨3, .data⟩ (by simp) rfl (by decide)
                  have e104 := hin 3 104 rfl (by decide)
                  rw [show x 3 = _ from d3] at e104
                  clear hdep hin hout
                  refine Stepped.call (f := 22) (args := #[.int .i64 z0]) ?_ ?_
                  · go_simp
                  · skip
                    refine (HTx.out _).mono ?_
                    rintro e W' ⟨rfl, hbx⟩
                    exact ⟨_, rfl, hbx, rfl⟩
                · skip
                  have d0 := hdep ⟨0, .data⟩ (by simp) rfl (by decide)
                  have e101 := hin 0 101 rfl (by decide)
                  rw [show x 0 = _ from d0] at e101
                  have d1 := hdep ⟨1, .data⟩ (by simp) rfl (by decide)
                  have e102 := hin 1 102 rfl (by decide)
                  rw [show x 1 = _ from d1] at e102
                  have d4 := hdep ⟨4, .data⟩ (by simp) rfl (by decide)
                  have e105 := hin 4 105 rfl (by decide)
                  rw [show x 4 = _ from d4] at e105
                  clear hdep hin hout
                  refine Stepped.call (f := 23) (args := #[.agg #[.int .i64 P.m, .string P.key, .string P.d.tb, .int .i64 (P.d.pos : Int), .slice n3 P.d.nm.length m3, .slice c3 P.d.cl.length k3', .bool P.d.clash], .string S, .string tx]) ?_ ?_
                  · go_simp
                  · skip
                    refine (HCl.out _ _ W (HR.out.below (HbA9.out.trans ((below_drew hB).mono HbA9.out.size))) (owns_below HN9.out (below_drew hB)) (owns_below HC9.out (below_drew hB))).mono ?_
                    rintro e W' ⟨nv, cv, rfl, hn', hc', hbx⟩
                    obtain ⟨n2, m2, rfl⟩ := slice_of hn'
                    obtain ⟨c2, k2', rfl⟩ := slice_of hc'
                    exact ⟨_, rfl, hbx, n2, m2, c2, k2', rfl, fun _ => ⟨ownsRow_weak hn' (Nat.zero_le _), ownsRow_weak hc' (Nat.zero_le _)⟩⟩
                · skip
                  have d5 := hdep ⟨5, .data⟩ (by simp) rfl (by decide)
                  have e106 := hin 5 106 rfl (by decide)
                  obtain ⟨n1, m1, c1, k1, d5, hnc⟩ := d5
                  rw [show x 5 = _ from d5] at e106
                  unfold Orc.vals at e106
                  clear hdep hin hout
                  refine Stepped.val (v := .tuple #[.string C, .agg (Orc.vals Q.m Q.key Q.d.tb Q.d.pos (.slice n1 Q.d.nm.length m1) (.slice c1 Q.d.cl.length k1) Q.d.clash), .int .i64 0]) ?_ ⟨n1, m1, c1, k1, rfl, hnc⟩
                  unfold Orc.vals
                  go_simp
                · skip
                  have d6 := hdep ⟨6, .data⟩ (by simp) rfl (by decide)
                  have e100 := hin 6 100 rfl (by decide)
                  obtain ⟨n1, m1, c1, k1, d6, hnc⟩ := d6
                  rw [show x 6 = _ from d6] at e100
                  unfold Orc.vals at e100
                  clear hdep hin hout
                  refine Stepped.val ?_ rfl
                  go_simp
                · skip
                  have d6 := hdep ⟨6, .data⟩ (by simp) rfl (by decide)
                  have e100 := hin 6 100 rfl (by decide)
                  obtain ⟨n1, m1, c1, k1, d6, hnc⟩ := d6
                  rw [show x 6 = _ from d6] at e100
                  unfold Orc.vals at e100
                  clear hdep hin hout
                  refine Stepped.val (v := .agg (Orc.vals Q.m Q.key Q.d.tb Q.d.pos (.slice n1 Q.d.nm.length m1) (.slice c1 Q.d.cl.length k1) Q.d.clash)) ?_ ⟨n1, m1, c1, k1, rfl, hnc⟩
                  unfold Orc.vals
                  go_simp
                · skip
                  have d6 := hdep ⟨6, .data⟩ (by simp) rfl (by decide)
                  have e100 := hin 6 100 rfl (by decide)
                  obtain ⟨n1, m1, c1, k1, d6, hnc⟩ := d6
                  rw [show x 6 = _ from d6] at e100
                  unfold Orc.vals at e100
                  clear hdep hin hout
                  refine Stepped.val ?_ rfl
                  go_simp
                · skip
                  clear hdep hin hout
                  refine Stepped.grow (v := .pointer (some ⟨W.heap.size, 0, none⟩)) (w' := W.alloc (.cells orcZ 31)) ?_ ((Below.refl _ _).alloc (Nat.le_refl _) _) ⟨_, rfl, hB.size, Row.new W _ _⟩
                  unfold orcZ
                  go_simp
                · skip
                  have d7 := hdep ⟨7, .data⟩ (by simp) rfl (by decide)
                  have e107 := hin 7 107 rfl (by decide)
                  rw [show x 7 = _ from d7] at e107
                  clear hdep hin hout
                  refine Stepped.val ?_ rfl
                  go_simp
                · skip
                  have d9 := hdep ⟨9, .data⟩ (by simp) rfl (by decide)
                  have e109 := hin 9 109 rfl (by decide)
                  rw [show x 9 = _ from d9] at e109
                  clear hdep hin hout
                  refine Stepped.val ?_ rfl
                  go_simp
              · intro o ho x W ρ hB hdep hin hout hcon
                cases ho
                obtain ⟨g, dg, hg, hr⟩ := hdep ⟨10, .data⟩ (by simp) rfl
                obtain ⟨n1, m1, c1, k1, da, hnc⟩ := hdep ⟨8, .data⟩ (by simp) rfl
                have eg := hin 10 24 rfl (by decide)
                have ea := hin 8 108 rfl (by decide)
                rw [show x 10 = _ from dg] at eg
                rw [show x 8 = _ from da] at ea
                have hr' : Row W g 31 orcZ := hr
                have z0 := hr'.cell 0
                have z1 := hr'.cell 1
                have z2 := hr'.cell 2
                have z3 := hr'.cell 3
                have z4 := hr'.cell 4
                have z5 := hr'.cell 5
                have z6 := hr'.cell 6
                change World.cell? _ _ = some _ at z0 z1 z2 z3 z4 z5 z6
                have f0 := hr'.frozen 0
                have f1 := hr'.frozen 1
                have f2 := hr'.frozen 2
                have f3 := hr'.frozen 3
                have f4 := hr'.frozen 4
                have f5 := hr'.frozen 5
                have f6 := hr'.frozen 6
                have hh := held_put7 (P := Q) hr' rfl (hnc rfl).1 (hnc rfl).2
                refine ⟨put7 W g fun i => (Orc.vals Q.m Q.key Q.d.tb Q.d.pos (.slice n1 Q.d.nm.length m1) (.slice c1 Q.d.cl.length k1) Q.d.clash).getD i undef, .inl ?_, below_put7 hB hg, ?_⟩
                · clear hh hdep hin hout
                  unfold put7
                  unfold Orc.vals at ea ⊢
                  go_simp
                · intro j hj h
                  rcases j with _ | _ | _ | _ | _ | _ | _ | _ | _ | _ | _ | _ | _ | j
                  · exact h
                  · exact h
                  · exact h
                  · exact h
                  · exact h
                  · exact TupIs.late _ h
                  · exact TupIs.late _ h
                  · exact h
                  · exact AggIs.late _ h
                  · exact h
                  · exact ⟨g, dg, hg, hh⟩
                  · exact h
                  · exact absurd rfl hj
                  · exact h
              · intro x W hB hR
                have d11 := hR 11 (by decide) (by decide)
                have d13 := hR 13 (by decide) (by decide)
                obtain ⟨g, d10, hg, hh⟩ := hR 10 (by decide) (by decide)
                clear hR
                change x 11 = _ at d11
                change x 13 = _ at d13
                have hh : Held W g Q := hh
                simp only [putAll, Act.put, d10, d11, d13]
                go_wp2
                go_meet
                exact ⟨rfl, rfl, g, rfl, hg, hh, below_drew hB⟩
            case rest =>
              obtain ⟨w10, rfl⟩ : ∃ w10, w10 = wc := ⟨_, rfl⟩
              obtain ⟨rfl, rfl, g24, rfl, hg24, hQ24, hbx⟩ := hcut
              have HbA10 := Lib.hid (HbA9.out.trans (hbx.mono HbA9.out.size))
              have Hq10d := Lib.hid (Hq10c.out.below hbx Hq10c.out.lt)
              have q12 := Hp12.out.below hbx Hp12.out.lt
              have H14a : Hid (StrAt w10 _ _ _) := Lib.hid (owns_below H149.out hbx)
              have H15a : Hid (StrAt w10 _ _ _) := Lib.hid (owns_below H159.out hbx)
              have H13a := Lib.hid (H139.out.below hbx H139.out.lt)
              obtain ⟨n4, m4, c4, k4, p24, hN10, hC10⟩ := hQ24
              unfold Orc.vals at p24
              have hg24w : w3.heap.size ≠ g24 := by have := Hq10c.out.lt; omega
              clear u0 u1 u2 u3 u4 u5 u6 t0 HbA9 Hq10c Hp12 HN9 HC9 H149 H159 H139 hbx HCl
              go_upto_region 15 with fail
              have u0 : w10.cell? ⟨g24, 0, none⟩ = some (.int .i64 Q.m) := p24.cell 0
              have u1 : w10.cell? ⟨g24, 1, none⟩ = some (.string Q.key) := p24.cell 1
              have u2 : w10.cell? ⟨g24, 2, none⟩ = some (.string Q.d.tb) := p24.cell 2
              have u3 : w10.cell? ⟨g24, 3, none⟩ = some (.int .i64 (Q.d.pos : Int)) := p24.cell 3
              have u4 : w10.cell? ⟨g24, 4, none⟩ = some (.slice n4 Q.d.nm.length m4) := p24.cell 4
              have u5 : w10.cell? ⟨g24, 5, none⟩ = some (.slice c4 Q.d.cl.length k4) := p24.cell 5
              have u6 : w10.cell? ⟨g24, 6, none⟩ = some (.bool Q.d.clash) := p24.cell 6
              have t0 : w10.cell? ⟨wr.heap.size, 0, none⟩ = some (.int .i64 z0) := q12.cell 0
              have Hp12 := Lib.hid q12
              have Hp24 := Lib.hid p24
              have HN10 := Lib.hid hN10
              have HC10 := Lib.hid hC10
              clear p24 q12 hN10 hC10
              go_cut [26, 27, 28] from 110 to 119 (fun v26 v27 v28 wx => v26 = .string C ∧ v28 = .int .i64 0 ∧ ∃ g, v27 = .pointer (some ⟨g, 0, none⟩) ∧ w10.heap.size ≤ g ∧ Held wx g Q ∧ Below w10.heap.size w10 wx)
              case first =>
                refine wp_region_any (by kernel_rfl) ?_
                change wpAny _ _ _ _ _ _ _ (World.drew w10)
                refine wpAny_stores 12 [111, 112, 113, 114, 115, 116, 110, 117, 118, 119, 27, 26, 100000, 28] (fun b j v W => match j with
                  | 0 => v = .agg #[.int .i64 Q.m, .string Q.key, .string Q.d.tb, .int .i64 (Q.d.pos : Int), .slice n4 Q.d.nm.length m4, .slice c4 Q.d.cl.length k4, .bool Q.d.clash]
                  | 1 => v = .string S
                  | 2 => v = .pointer (some ⟨wr.heap.size, 0, none⟩)
                  | 3 => v = .int .i64 z0
                  | 4 => v = .string tx
                  | 5 => TupIs b C Q v W
                  | 6 => TupIs b C Q v W
                  | 7 => v = .string C
                  | 8 => AggIs b Q v W
                  | 9 => v = .int .i64 0
                  | 10 => CellIs b w10.heap.size Q v W
                  | 11 => v = .string C
                  | 12 => True
                  | _ => v = .int .i64 0) 233 (by kernel_rfl) (by kernel_rfl) (by decide) ?_ ?_ ?_ ?_
                · intro b j v W W' h hb
                  rcases j with _ | _ | _ | _ | _ | _ | _ | _ | _ | _ | _ | _ | _ | j
                  · exact h
                  · exact h
                  · exact h
                  · exact h
                  · exact h
                  · exact TupIs.mono h hb
                  · exact TupIs.mono h hb
                  · exact h
                  · exact AggIs.mono h hb
                  · exact h
                  · exact CellIs.mono h hb
                  · exact h
                  · exact h
                  · exact h
                · refine ASteps.ahead rfl (by kernel_rfl) (fun x W ρ hB hdep hin hout hcon hfun => ?_) (ASteps.ahead rfl (by kernel_rfl) (fun x W ρ hB hdep hin hout hcon hfun => ?_) (ASteps.ahead rfl (by kernel_rfl) (fun x W ρ hB hdep hin hout hcon hfun => ?_) (ASteps.ahead rfl (by kernel_rfl) (fun x W ρ hB hdep hin hout hcon hfun => ?_) (ASteps.ahead rfl (by kernel_rfl) (fun x W ρ hB hdep hin hout hcon hfun => ?_) (ASteps.ahead rfl (by kernel_rfl) (fun x W ρ hB hdep hin hout hcon hfun => ?_) (ASteps.ahead rfl (by kernel_rfl) (fun x W ρ hB hdep hin hout hcon hfun => ?_) (ASteps.ahead rfl (by kernel_rfl) (fun x W ρ hB hdep hin hout hcon hfun => ?_) (ASteps.ahead rfl (by kernel_rfl) (fun x W ρ hB hdep hin hout hcon hfun => ?_) (ASteps.free rfl (fun b x W ρ hB hdep hin hout hcon hfun => ?_) (ASteps.ahead rfl (by kernel_rfl) (fun x W ρ hB hdep hin hout hcon hfun => ?_) (ASteps.ahead rfl (by kernel_rfl) (fun x W ρ hB hdep hin hout hcon hfun => ?_) (ASteps.skip (ASteps.free rfl (fun b x W ρ hB hdep hin hout hcon hfun => ?_) (ASteps.nil (by decide)))))))))))))))
                  · skip
                    have e24 := hout 24 (by decide)
                    change ρ (.tmp 24) = .pointer (some ⟨g24, 0, none⟩) at e24
                    have v0 := cell_below hB u0
                    have v1 := cell_below hB u1
                    have v2 := cell_below hB u2
                    have v3 := cell_below hB u3
                    have v4 := cell_below hB u4
                    have v5 := cell_below hB u5
                    have v6 := cell_below hB u6
                    clear hdep hin hout
                    refine Stepped.val ?_ rfl
                    go_simp
                  · skip
                    have e20 := hout 20 (by decide)
                    change ρ (.tmp 20) = .string S at e20
                    clear hdep hin hout
                    refine Stepped.val ?_ rfl
                    go_simp
                  · skip
                    have e17 := hout 17 (by decide)
                    change ρ (.tmp 17) = .pointer (some ⟨wr.heap.size, 0, none⟩) at e17
                    clear hdep hin hout
                    refine Stepped.val ?_ rfl
                    go_simp
                  · skip
                    have d2 := hdep ⟨2, .data⟩ (by simp) rfl (by decide)
                    have e113 := hin 2 113 rfl (by decide)
                    rw [show x 2 = _ from d2] at e113
                    have v1 := cell_below hB t0
                    clear hdep hin hout
                    refine Stepped.val ?_ rfl
                    go_simp
                  · skip
                    have d3 := hdep ⟨3, .data⟩ (by simp) rfl (by decide)
                    have e114 := hin 3 114 rfl (by decide)
                    rw [show x 3 = _ from d3] at e114
                    clear hdep hin hout
                    refine Stepped.call (f := 22) (args := #[.int .i64 z0]) ?_ ?_
                    · go_simp
                    · skip
                      refine (HTx.out _).mono ?_
                      rintro e W' ⟨rfl, hbx⟩
                      exact ⟨_, rfl, hbx, rfl⟩
                  · skip
                    have d0 := hdep ⟨0, .data⟩ (by simp) rfl (by decide)
                    have e111 := hin 0 111 rfl (by decide)
                    rw [show x 0 = _ from d0] at e111
                    have d1 := hdep ⟨1, .data⟩ (by simp) rfl (by decide)
                    have e112 := hin 1 112 rfl (by decide)
                    rw [show x 1 = _ from d1] at e112
                    have d4 := hdep ⟨4, .data⟩ (by simp) rfl (by decide)
                    have e115 := hin 4 115 rfl (by decide)
                    rw [show x 4 = _ from d4] at e115
                    clear hdep hin hout
                    refine Stepped.call (f := 23) (args := #[.agg #[.int .i64 Q.m, .string Q.key, .string Q.d.tb, .int .i64 (Q.d.pos : Int), .slice n4 Q.d.nm.length m4, .slice c4 Q.d.cl.length k4, .bool Q.d.clash], .string S, .string tx]) ?_ ?_
                    · go_simp
                    · skip
                      refine (HCl2.out _ _ W (HR.out.below (HbA10.out.trans ((below_drew hB).mono HbA10.out.size))) (owns_below HN10.out (below_drew hB)) (owns_below HC10.out (below_drew hB))).mono ?_
                      rintro e W' ⟨nv, cv, rfl, hn', hc', hbx⟩
                      obtain ⟨n2, m2, rfl⟩ := slice_of hn'
                      obtain ⟨c2, k2', rfl⟩ := slice_of hc'
                      exact ⟨_, rfl, hbx, n2, m2, c2, k2', rfl, fun _ => ⟨ownsRow_weak hn' (Nat.zero_le _), ownsRow_weak hc' (Nat.zero_le _)⟩⟩
                  · skip
                    have d5 := hdep ⟨5, .data⟩ (by simp) rfl (by decide)
                    have e116 := hin 5 116 rfl (by decide)
                    obtain ⟨n1, m1, c1, k1, d5, hnc⟩ := d5
                    rw [show x 5 = _ from d5] at e116
                    unfold Orc.vals at e116
                    clear hdep hin hout
                    refine Stepped.val (v := .tuple #[.string C, .agg (Orc.vals Q.m Q.key Q.d.tb Q.d.pos (.slice n1 Q.d.nm.length m1) (.slice c1 Q.d.cl.length k1) Q.d.clash), .int .i64 0]) ?_ ⟨n1, m1, c1, k1, rfl, hnc⟩
                    unfold Orc.vals
                    go_simp
                  · skip
                    have d6 := hdep ⟨6, .data⟩ (by simp) rfl (by decide)
                    have e110 := hin 6 110 rfl (by decide)
                    obtain ⟨n1, m1, c1, k1, d6, hnc⟩ := d6
                    rw [show x 6 = _ from d6] at e110
                    unfold Orc.vals at e110
                    clear hdep hin hout
                    refine Stepped.val ?_ rfl
                    go_simp
                  · skip
                    have d6 := hdep ⟨6, .data⟩ (by simp) rfl (by decide)
                    have e110 := hin 6 110 rfl (by decide)
                    obtain ⟨n1, m1, c1, k1, d6, hnc⟩ := d6
                    rw [show x 6 = _ from d6] at e110
                    unfold Orc.vals at e110
                    clear hdep hin hout
                    refine Stepped.val (v := .agg (Orc.vals Q.m Q.key Q.d.tb Q.d.pos (.slice n1 Q.d.nm.length m1) (.slice c1 Q.d.cl.length k1) Q.d.clash)) ?_ ⟨n1, m1, c1, k1, rfl, hnc⟩
                    unfold Orc.vals
                    go_simp
                  · skip
                    have d6 := hdep ⟨6, .data⟩ (by simp) rfl (by decide)
                    have e110 := hin 6 110 rfl (by decide)
                    obtain ⟨n1, m1, c1, k1, d6, hnc⟩ := d6
                    rw [show x 6 = _ from d6] at e110
                    unfold Orc.vals at e110
                    clear hdep hin hout
                    refine Stepped.val ?_ rfl
                    go_simp
                  · skip
                    clear hdep hin hout
                    refine Stepped.grow (v := .pointer (some ⟨W.heap.size, 0, none⟩)) (w' := W.alloc (.cells orcZ 31)) ?_ ((Below.refl _ _).alloc (Nat.le_refl _) _) ⟨_, rfl, hB.size, Row.new W _ _⟩
                    unfold orcZ
                    go_simp
                  · skip
                    have d7 := hdep ⟨7, .data⟩ (by simp) rfl (by decide)
                    have e117 := hin 7 117 rfl (by decide)
                    rw [show x 7 = _ from d7] at e117
                    clear hdep hin hout
                    refine Stepped.val ?_ rfl
                    go_simp
                  · skip
                    have d9 := hdep ⟨9, .data⟩ (by simp) rfl (by decide)
                    have e119 := hin 9 119 rfl (by decide)
                    rw [show x 9 = _ from d9] at e119
                    clear hdep hin hout
                    refine Stepped.val ?_ rfl
                    go_simp
                · intro o ho x W ρ hB hdep hin hout hcon
                  cases ho
                  obtain ⟨g, dg, hg, hr⟩ := hdep ⟨10, .data⟩ (by simp) rfl
                  obtain ⟨n1, m1, c1, k1, da, hnc⟩ := hdep ⟨8, .data⟩ (by simp) rfl
                  have eg := hin 10 27 rfl (by decide)
                  have ea := hin 8 118 rfl (by decide)
                  rw [show x 10 = _ from dg] at eg
                  rw [show x 8 = _ from da] at ea
                  have hr' : Row W g 31 orcZ := hr
                  have z0 := hr'.cell 0
                  have z1 := hr'.cell 1
                  have z2 := hr'.cell 2
                  have z3 := hr'.cell 3
                  have z4 := hr'.cell 4
                  have z5 := hr'.cell 5
                  have z6 := hr'.cell 6
                  change World.cell? _ _ = some _ at z0 z1 z2 z3 z4 z5 z6
                  have f0 := hr'.frozen 0
                  have f1 := hr'.frozen 1
                  have f2 := hr'.frozen 2
                  have f3 := hr'.frozen 3
                  have f4 := hr'.frozen 4
                  have f5 := hr'.frozen 5
                  have f6 := hr'.frozen 6
                  have hh := held_put7 (P := Q) hr' rfl (hnc rfl).1 (hnc rfl).2
                  refine ⟨put7 W g fun i => (Orc.vals Q.m Q.key Q.d.tb Q.d.pos (.slice n1 Q.d.nm.length m1) (.slice c1 Q.d.cl.length k1) Q.d.clash).getD i undef, .inl ?_, below_put7 hB hg, ?_⟩
                  · clear hh hdep hin hout
                    unfold put7
                    unfold Orc.vals at ea ⊢
                    go_simp
                  · intro j hj h
                    rcases j with _ | _ | _ | _ | _ | _ | _ | _ | _ | _ | _ | _ | _ | j
                    · exact h
                    · exact h
                    · exact h
                    · exact h
                    · exact h
                    · exact TupIs.late _ h
                    · exact TupIs.late _ h
                    · exact h
                    · exact AggIs.late _ h
                    · exact h
                    · exact ⟨g, dg, hg, hh⟩
                    · exact h
                    · exact absurd rfl hj
                    · exact h
                · intro x W hB hR
                  have d11 := hR 11 (by decide) (by decide)
                  have d13 := hR 13 (by decide) (by decide)
                  obtain ⟨g, d10, hg, hh⟩ := hR 10 (by decide) (by decide)
                  clear hR
                  change x 11 = _ at d11
                  change x 13 = _ at d13
                  have hh : Held W g Q := hh
                  simp only [putAll, Act.put, d10, d11, d13]
                  go_wp2
                  go_meet
                  exact ⟨rfl, rfl, g, rfl, hg, hh, below_drew hB⟩
              case rest =>
                obtain ⟨w11, rfl⟩ : ∃ w11, w11 = wc := ⟨_, rfl⟩
                obtain ⟨rfl, rfl, g27, rfl, hg27, hQ27, hbx⟩ := hcut
                have HbA11 := Lib.hid (HbA10.out.trans (hbx.mono HbA10.out.size))
                have Hq10e := Lib.hid (Hq10d.out.below hbx Hq10d.out.lt)
                have Hp12b := Lib.hid (Hp12.out.below hbx Hp12.out.lt)
                have H14b : Hid (StrAt w11 _ _ _) := Lib.hid (owns_below H14a.out hbx)
                have H15b : Hid (StrAt w11 _ _ _) := Lib.hid (owns_below H15a.out hbx)
                have H13b := Lib.hid (H13a.out.below hbx H13a.out.lt)
                have Hp24b := Lib.hid (Hp24.out.below hbx Hp24.out.lt)
                have HN11 := Lib.hid (owns_below HN10.out hbx)
                have HC11 := Lib.hid (owns_below HC10.out hbx)
                obtain ⟨n5, m5, c5, k5, p27, hN11, hC11⟩ := hQ27
                unfold Orc.vals at p27
                have hg27w : w3.heap.size ≠ g27 := by have := Hq10d.out.lt; omega
                clear u0 u1 u2 u3 u4 u5 u6 t0 HbA10 Hq10d Hp12 Hp24 HN10 HC10 H14a H15a H13a hbx HCl2
                have u0 : w11.cell? ⟨g27, 0, none⟩ = some (.int .i64 Q.m) := p27.cell 0
                have u1 : w11.cell? ⟨g27, 1, none⟩ = some (.string Q.key) := p27.cell 1
                have u2 : w11.cell? ⟨g27, 2, none⟩ = some (.string Q.d.tb) := p27.cell 2
                have u3 : w11.cell? ⟨g27, 3, none⟩ = some (.int .i64 (Q.d.pos : Int)) := p27.cell 3
                have u4 : w11.cell? ⟨g27, 4, none⟩ = some (.slice n5 Q.d.nm.length m5) := p27.cell 4
                have u5 : w11.cell? ⟨g27, 5, none⟩ = some (.slice c5 Q.d.cl.length k5) := p27.cell 5
                have u6 : w11.cell? ⟨g27, 6, none⟩ = some (.bool Q.d.clash) := p27.cell 6
                have Hp27 := Lib.hid p27
                have HN12 := Lib.hid hN11
                have HC12 := Lib.hid hC11
                clear p27 hN11 hC11
                go_wp2_with fail
                refine (HOp.out _ _ _ (HR.out.below HbA11.out) HN12.out HC12.out).mono ?_
                rintro e w12 ⟨rfl, hb12⟩
                have HbA12 := Lib.hid (HbA11.out.trans (hb12.mono HbA11.out.size))
                have Hq10f := Lib.hid (Hq10e.out.below hb12 Hq10e.out.lt)
                have Hp12c := Lib.hid (Hp12b.out.below hb12 Hp12b.out.lt)
                have H14c : Hid (StrAt w12 _ _ _) := Lib.hid (owns_below H14b.out hb12)
                have H15c : Hid (StrAt w12 _ _ _) := Lib.hid (owns_below H15b.out hb12)
                have H13c := Lib.hid (H13b.out.below hb12 H13b.out.lt)
                have p24 := Hp24b.out.below hb12 Hp24b.out.lt
                have p27 := Hp27.out.below hb12 Hp27.out.lt
                have hn24 := owns_below HN11.out hb12
                have hc24 := owns_below HC11.out hb12
                have hn27 := owns_below HN12.out hb12
                have hc27 := owns_below HC12.out hb12
                have hSm := refOrcSame_any Q.m Q.key Q.d.tb Q.d.pos Q.d.clash Q.d.nm Q.d.cl _ _ _ _ w12 hn24 hc24 hn27 hc27
                unfold Orc.vals at hSm
                have HN13 := Lib.hid hn27
                have HC13 := Lib.hid hc27
                have s40 : (C.size : Int) = 40 := by have := HhCs.out; omega
                clear u0 u1 u2 u3 u4 u5 u6 HbA11 Hq10e Hp12b H14b H15b H13b Hp24b Hp27 HN11 HC11 HN12 HC12 hn24 hc24 hn27 hc27 hb12 HOp
                obtain ⟨r, hr⟩ : ∃ r, Q.d.clash = r := ⟨_, rfl⟩
                have hX2r : r = false → X = tx := fun h => HhX2.out (hr.trans h)
                rw [hr] at hSm p24 p27
                have Hr := Lib.hid hr
                have HX2r := Lib.hid hX2r
                have HSm := Lib.hid hSm
                have Hp27b := Lib.hid p27
                clear hr hX2r hSm
                go_upto_region 17 with fail
                have ya0 : w12.cell? ⟨g24, 0, none⟩ = some (.int .i64 Q.m) := p24.cell 0
                have ya1 : w12.cell? ⟨g24, 1, none⟩ = some (.string Q.key) := p24.cell 1
                have ya2 : w12.cell? ⟨g24, 2, none⟩ = some (.string Q.d.tb) := p24.cell 2
                have ya3 : w12.cell? ⟨g24, 3, none⟩ = some (.int .i64 (Q.d.pos : Int)) := p24.cell 3
                have ya4 : w12.cell? ⟨g24, 4, none⟩ = some (.slice n4 Q.d.nm.length m4) := p24.cell 4
                have ya5 : w12.cell? ⟨g24, 5, none⟩ = some (.slice c4 Q.d.cl.length k4) := p24.cell 5
                have ya6 : w12.cell? ⟨g24, 6, none⟩ = some (.bool r) := p24.cell 6
                have yb0 : w12.cell? ⟨g27, 0, none⟩ = some (.int .i64 Q.m) := p27.cell 0
                have yb1 : w12.cell? ⟨g27, 1, none⟩ = some (.string Q.key) := p27.cell 1
                have yb2 : w12.cell? ⟨g27, 2, none⟩ = some (.string Q.d.tb) := p27.cell 2
                have yb3 : w12.cell? ⟨g27, 3, none⟩ = some (.int .i64 (Q.d.pos : Int)) := p27.cell 3
                have yb4 : w12.cell? ⟨g27, 4, none⟩ = some (.slice n5 Q.d.nm.length m5) := p27.cell 4
                have yb5 : w12.cell? ⟨g27, 5, none⟩ = some (.slice c5 Q.d.cl.length k5) := p27.cell 5
                have yb6 : w12.cell? ⟨g27, 6, none⟩ = some (.bool r) := p27.cell 6
                clear p24 p27
                go_cut [175] from 127 to 174 (fun v wx => v = .bool false ∧ Below w12.heap.size w12 wx)
                case first =>
                  cases r
                  · obtain rfl := HX2r.out rfl
                    go_wp2_with fail
                    refine HSm.out.mono ?_
                    rintro e w13 ⟨rfl, hb13⟩
                    have p12 := Hp12c.out.below hb13 Hp12c.out.lt
                    have p27 := Hp27b.out.below hb13 Hp27b.out.lt
                    have h13 := H13c.out.below hb13 H13c.out.lt
                    have yb6' : w13.cell? ⟨g27, 6, none⟩ = some (.bool false) := p27.cell 6
                    have t0 : w13.cell? ⟨wr.heap.size, 0, none⟩ = some (.int .i64 z0) := p12.cell 0
                    go_wp2_with fail
                    refine (HTx.out _).mono ?_
                    rintro e w14 ⟨rfl, hb14⟩
                    have p27b := p27.below hb14 p27.lt
                    have h13b := h13.below hb14 h13.lt
                    have hfin := below_seq hb13 hb14
                    cases real
                    · go_wp2
                      go_meet
                      exact ⟨rfl, hfin⟩
                    · have hrr := HhQr.out Hm.out.symm
                      have e2 : w14.cell? ⟨g27, 2, none⟩ = some (.string s) := by rw [← hrr.1]; exact p27b.cell 2
                      have e3 : w14.cell? ⟨g27, 3, none⟩ = some (.int .i64 0) := by have h := p27b.cell 3; rw [hrr.2] at h; exact h
                      have f2 : w14.cell? ⟨w3.heap.size + 1, 0, none⟩ = some (.string s) := h13b.cell 0
                      have f3 : w14.cell? ⟨w3.heap.size + 1, 1, none⟩ = some (.int .i64 0) := h13b.cell 1
                      clear hrr
                      go_wp2
                      go_meet
                      exact ⟨rfl, hfin⟩
                  · go_wp2_with fail
                    refine HSm.out.mono ?_
                    rintro e w13 ⟨rfl, hb13⟩
                    have p27 := Hp27b.out.below hb13 Hp27b.out.lt
                    have h13 := H13c.out.below hb13 H13c.out.lt
                    have yb6' : w13.cell? ⟨g27, 6, none⟩ = some (.bool true) := p27.cell 6
                    cases real
                    · go_wp2
                      go_meet
                      exact ⟨rfl, hb13⟩
                    · have hrr := HhQr.out Hm.out.symm
                      have e2 : w13.cell? ⟨g27, 2, none⟩ = some (.string s) := by rw [← hrr.1]; exact p27.cell 2
                      have e3 : w13.cell? ⟨g27, 3, none⟩ = some (.int .i64 0) := by have h := p27.cell 3; rw [hrr.2] at h; exact h
                      have f2 : w13.cell? ⟨w3.heap.size + 1, 0, none⟩ = some (.string s) := h13.cell 0
                      have f3 : w13.cell? ⟨w3.heap.size + 1, 1, none⟩ = some (.int .i64 0) := h13.cell 1
                      clear hrr
                      go_wp2
                      go_meet
                      exact ⟨rfl, hb13⟩
                case rest =>
                  obtain ⟨w15, rfl⟩ : ∃ w15, w15 = wc := ⟨_, rfl⟩
                  obtain ⟨rfl, hbx⟩ := hcut
                  have HbA15 := Lib.hid (HbA12.out.trans (hbx.mono HbA12.out.size))
                  have q10 := Hq10f.out.below hbx Hq10f.out.lt
                  have h14 : StrAt w15 _ _ _ := owns_below H14c.out hbx
                  have h15 : StrAt w15 _ _ _ := owns_below H15c.out hbx
                  have h13 := H13c.out.below hbx H13c.out.lt
                  have p27 := Hp27b.out.below hbx Hp27b.out.lt
                  have hn := owns_below HN13.out hbx
                  have hc := owns_below HC13.out hbx
                  clear ya0 ya1 ya2 ya3 ya4 ya5 ya6 yb0 yb1 yb2 yb3 yb4 yb5 yb6 HbA12 Hq10f Hp12c H14c H15c H13c Hp27b HN13 HC13 hbx HSm HX2r HTx
                  have hh := held_put7 (P := Q) q10 rfl hn hc
                  have h14w := str_put7 h14 fun i => (Orc.vals Q.m Q.key Q.d.tb Q.d.pos (.slice n5 Q.d.nm.length m5) (.slice c5 Q.d.cl.length k5) Q.d.clash).getD i undef
                  have h15w := str_put7 h15 fun i => (Orc.vals Q.m Q.key Q.d.tb Q.d.pos (.slice n5 Q.d.nm.length m5) (.slice c5 Q.d.cl.length k5) Q.d.clash).getD i undef
                  have h13w := row_put7_other h13 (g := w3.heap.size) (by omega) fun i => (Orc.vals Q.m Q.key Q.d.tb Q.d.pos (.slice n5 Q.d.nm.length m5) (.slice c5 Q.d.cl.length k5) Q.d.clash).getD i undef
                  have hbw := below_put7 (v := fun i => (Orc.vals Q.m Q.key Q.d.tb Q.d.pos (.slice n5 Q.d.nm.length m5) (.slice c5 Q.d.cl.length k5) Q.d.clash).getD i undef) HbA15.out hg0
                  obtain ⟨WF, hWF⟩ : ∃ WF, put7 w15 w3.heap.size (fun i => (Orc.vals Q.m Q.key Q.d.tb Q.d.pos (.slice n5 Q.d.nm.length m5) (.slice c5 Q.d.cl.length k5) Q.d.clash).getD i undef) = WF := ⟨_, rfl⟩
                  rw [hWF] at hh h14w h15w h13w hbw
                  have hWF' : ((((((w15.setCell ⟨w3.heap.size, 0, none⟩ (.int .i64 Q.m)).setCell ⟨w3.heap.size, 1, none⟩ (.string Q.key)).setCell ⟨w3.heap.size, 2, none⟩ (.string Q.d.tb)).setCell ⟨w3.heap.size, 3, none⟩ (.int .i64 (Q.d.pos : Int))).setCell ⟨w3.heap.size, 4, none⟩ (.slice n5 Q.d.nm.length m5)).setCell ⟨w3.heap.size, 5, none⟩ (.slice c5 Q.d.cl.length k5)).setCell ⟨w3.heap.size, 6, none⟩ (.bool r) = WF := by rw [← Hr.out]; exact hWF
                  clear hWF
                  have Hh := Lib.hid hh
                  have H14 := Lib.hid h14w
                  have H15 := Lib.hid h15w
                  have H13 := Lib.hid h13w
                  have HbW := Lib.hid hbw
                  have u0 : w15.cell? ⟨w3.heap.size, 0, none⟩ = some (.int .i64 o.m) := q10.cell 0
                  have u1 : w15.cell? ⟨w3.heap.size, 1, none⟩ = some (.string o.key) := q10.cell 1
                  have u2 : w15.cell? ⟨w3.heap.size, 2, none⟩ = some (.string o.d.tb) := q10.cell 2
                  have u3 : w15.cell? ⟨w3.heap.size, 3, none⟩ = some (.int .i64 (o.d.pos : Int)) := q10.cell 3
                  have u4 : w15.cell? ⟨w3.heap.size, 4, none⟩ = some (.slice n1 o.d.nm.length m1) := q10.cell 4
                  have u5 : w15.cell? ⟨w3.heap.size, 5, none⟩ = some (.slice c1 o.d.cl.length k1) := q10.cell 5
                  have u6 : w15.cell? ⟨w3.heap.size, 6, none⟩ = some (.bool o.d.clash) := q10.cell 6
                  have uf0 := q10.frozen 0
                  have uf1 := q10.frozen 1
                  have uf2 := q10.frozen 2
                  have uf3 := q10.frozen 3
                  have uf4 := q10.frozen 4
                  have uf5 := q10.frozen 5
                  have uf6 := q10.frozen 6
                  have yb0 : w15.cell? ⟨g27, 0, none⟩ = some (.int .i64 Q.m) := p27.cell 0
                  have yb1 : w15.cell? ⟨g27, 1, none⟩ = some (.string Q.key) := p27.cell 1
                  have yb2 : w15.cell? ⟨g27, 2, none⟩ = some (.string Q.d.tb) := p27.cell 2
                  have yb3 : w15.cell? ⟨g27, 3, none⟩ = some (.int .i64 (Q.d.pos : Int)) := p27.cell 3
                  have yb4 : w15.cell? ⟨g27, 4, none⟩ = some (.slice n5 Q.d.nm.length m5) := p27.cell 4
                  have yb5 : w15.cell? ⟨g27, 5, none⟩ = some (.slice c5 Q.d.cl.length k5) := p27.cell 5
                  have yb6 : w15.cell? ⟨g27, 6, none⟩ = some (.bool r) := p27.cell 6
                  have Hclash : ∃ n1 m1 c1 k1, Row WF w3.heap.size 31 (Orc.vals Q.m Q.key Q.d.tb Q.d.pos (.slice n1 Q.d.nm.length m1) (.slice c1 Q.d.cl.length k1) Q.d.clash) := by
                    obtain ⟨a1, b1, d1, f1, h, _⟩ := hh
                    exact ⟨a1, b1, d1, f1, h⟩
                  have w6 : WF.cell? ⟨w3.heap.size, 6, none⟩ = some (.bool r) := by
                    obtain ⟨a1, b1, d1, f1, h⟩ := Hclash
                    rw [← Hr.out]
                    exact h.cell 6
                  clear hh h14 h15 h13 h14w h15w h13w hbw p27 hn hc q10 Hclash HbA15
                  go_wp2
                  have hA10 : AL.length ≤ 10 := by have := HhAl.out; omega
                  have HLA := Lib.hid (show LL.length = AL.length by rw [HhAl.out, HhLl.out])
                  go_loopw [31] (fun vk wr' => ∃ k : Nat, k ≤ AL.length ∧ vk = .int .i64 (k : Int) ∧ wr' = WF) (fun vk _ => AL.length - (intOf vk).toNat)
                  case atStart => exact ⟨0, Nat.zero_le _, rfl, rfl⟩
                  case round =>
                    obtain ⟨k, hk, rfl, hwk⟩ := hrel
                    subst hwk
                    by_cases hlt : k < AL.length
                    · obtain ⟨ak, hak⟩ : ∃ x, AL[k]? = some x := ⟨_, List.getElem?_eq_getElem hlt⟩
                      obtain ⟨lk, hlk⟩ : ∃ x, LL[k]? = some x := ⟨_, List.getElem?_eq_getElem (by have := HLA.out; omega)⟩
                      obtain ⟨ga, pa, hva, xk⟩ := str_at H14.out hak
                      obtain ⟨gl, pl, hvl, yk⟩ := str_at H15.out hlk
                      injection hva with hva _ hvc
                      injection hvl with hvl _ hvd
                      subst hva hvc hvl hvd
                      have hin1 : (ak, lk) ∈ Q.d.nm := by rw [HhQnm.out]; exact HhPsub.out _ (HhAL.out k ak lk hak hlk)
                      have hin2 : (q, S) ∈ Q.d.nm := by rw [HhQnm.out]; exact HhSin.out
                      have f1 : ak = q → lk = S := by
                        rintro rfl
                        have h1 := Idl.label_found HhQg.out.d hin1
                        have h2 := Idl.label_found HhQg.out.d hin2
                        rw [h1] at h2
                        exact (Prod.mk.inj h2).1
                      have f2 : r = false → lk = S → ak = q := fun hrf hls => by
                        have hcf : Q.d.clash = false := by rw [Hr.out, hrf]
                        have hno : Q.d.outs.Nodup := twice_false.1 (by unfold Idl.clash at hcf; exact (Bool.or_eq_false_iff.1 hcf).1)
                        have := map_inj (f := fun n : ByteArray × ByteArray => n.2) hno hin1 hin2 hls
                        exact (Prod.mk.inj this).1
                      have klt : (k : Int) < AL.length := by omega
                      have klt2 : (k : Int) < LL.length := by have := HLA.out; omega
                      have k64 : (k : Int) < 9223372036854775807 := by omega
                      clear hak hlk hin1 hin2
                      by_cases e1 : ak = q
                      · have e2 := f1 e1
                        have b1 : (ak.toList == q.toList) = true := by rw [texts_beq]; exact decide_eq_true e1
                        have b2 : (lk.toList == S.toList) = true := by rw [texts_beq]; exact decide_eq_true e2
                        clear e1 e2 f1 f2
                        go_wp2
                        go_roundw
                        case rel => exact ⟨k + 1, by omega, rfl, trivial⟩
                        case measure => simp [intOf]; omega
                      · have b1 : (ak.toList == q.toList) = false := by rw [texts_beq]; exact decide_eq_false e1
                        by_cases e2 : lk = S
                        · have b2 : (lk.toList == S.toList) = true := by rw [texts_beq]; exact decide_eq_true e2
                          have hr1 : r = true := by
                            cases r
                            · exact absurd (f2 rfl e2) e1
                            · rfl
                          subst hr1
                          clear e1 e2 f1 f2
                          go_wp2
                          go_roundw
                          case rel => exact ⟨k + 1, by omega, rfl, trivial⟩
                          case measure => simp [intOf]; omega
                        · have b2 : (lk.toList == S.toList) = false := by rw [texts_beq]; exact decide_eq_false e2
                          clear e1 e2 f1 f2
                          go_wp2
                          go_roundw
                          case rel => exact ⟨k + 1, by omega, rfl, trivial⟩
                          case measure => simp [intOf]; omega
                    · obtain rfl : k = AL.length := by omega
                      obtain ⟨i0, hi0, hz0, hz1, hz2⟩ := info_parts infoStr
                      have hL10 : LL.length ≤ 10 := by have := HLA.out; omega
                      have hsz : w3.heap.size + 2 ≤ wr.heap.size := by have := H13.out.lt; omega
                      have hal : Below wr.heap.size wr (wr.alloc (.cells #[.string q] 9)) := (Below.refl _ wr).alloc (Nat.le_refl _) _
                      have H14a : Hid (StrAt _ _ _ _) := Lib.hid (owns_below H14.out hal)
                      have H15a : Hid (StrAt _ _ _ _) := Lib.hid (owns_below H15.out hal)
                      have H13a := Lib.hid (H13.out.below hal H13.out.lt)
                      have Hha := Lib.hid (Hh.out.below hal)
                      have HbWa := Lib.hid (HbW.out.trans (hal.mono HbW.out.size))
                      clear hal
                      go_wp2_with (at_builtin; go_must (refine wpList_append_own _ rfl _ _ 41 rfl (w3.heap.size + 2) 9 i0 _ 1 16 Tryz.underlying41 hi0 hz0 hz1 hz2 rfl (by decide) _ _ _ rfl (H14a.out) ⟨wr.heap.size, 0, none⟩ 1 1 [.string q] rfl rfl ?a2 (by simp [Value.oneCell']) ?a3 ?a4 ?a5 ?_))
                      case a2 => intro j u hu; rw [Addr.add_mid, Nat.zero_add, (Row.new wr 9 #[.string q]).cell j]; simpa using hu
                      case a3 => unfold maxLen; omega
                      case a4 => omega
                      case a5 => rw [World.size_alloc]; omega
                      intro v14' w17 hown14 hg14 _
                      have hkg := keep_grown hg14
                      have Hap := Lib.hid (str_apart2 H14a.out H15a.out HhAs.out HhLs.out (fun h => (Hhnil.out h).1) (fun h => (Hhnil.out (List.length_eq_zero_iff.1 (by have h9 := HLA.out; rw [h] at h9; exact h9.symm))).2))
                      have h14n := str_snoc hown14 rfl
                      have h15n : StrAt w17 _ _ _ := owns_keep H15a.out hkg (fun kk hk2 e => Hap.out kk e hk2)
                      have hhn := Hha.out.grown H14a.out hkg
                      have h13n := H13a.out.keep hkg (fun e => by have := (H14a.out.lt _ e).1; omega)
                      have hbn := HbWa.out.trans (keep_below (B := w.heap.size) hkg (fun kk hk2 e => by have := (H14a.out.lt _ e).1; omega) HbWa.out.size)
                      have hsz2 : w3.heap.size + 2 ≤ w17.heap.size := by have := h13n.lt; omega
                      clear hown14 hg14 hkg H14 H15 H13 Hh HbW H14a H15a H13a Hha HbWa Hap u0 u1 u2 u3 u4 u5 u6
                      have hal : Below w17.heap.size w17 (w17.alloc (.cells #[.string S] 9)) := (Below.refl _ w17).alloc (Nat.le_refl _) _
                      have H14a : Hid (StrAt _ _ _ _) := Lib.hid (owns_below h14n hal)
                      have H15a : Hid (StrAt _ _ _ _) := Lib.hid (owns_below h15n hal)
                      have H13a := Lib.hid (h13n.below hal h13n.lt)
                      have Hha := Lib.hid (hhn.below hal)
                      have HbWa := Lib.hid (hbn.trans (hal.mono hbn.size))
                      clear hal h14n h15n h13n hhn hbn
                      go_wp2_with (at_builtin; go_must (refine wpList_append_own _ rfl _ _ 41 rfl (w3.heap.size + 2) 9 i0 _ 1 16 Tryz.underlying41 hi0 hz0 hz1 hz2 rfl (by decide) _ _ _ rfl (H15a.out) ⟨w17.heap.size, 0, none⟩ 1 1 [.string S] rfl rfl ?b2 (by simp [Value.oneCell']) ?b3 ?b4 ?b5 ?_))
                      case b2 => intro j u hu; rw [Addr.add_mid, Nat.zero_add, (Row.new w17 9 #[.string S]).cell j]; simpa using hu
                      case b3 => unfold maxLen; omega
                      case b4 => omega
                      case b5 => rw [World.size_alloc]; omega
                      intro v15' w18 hown15 hg15 _
                      have hkg := keep_grown hg15
                      have hAs' : ∀ x ∈ AL ++ [q], x.size ≠ 16 := fun x hx => by
                        rcases List.mem_append.1 hx with hx | hx
                        · exact HhAs.out x hx
                        · rw [List.mem_singleton] at hx
                          rw [hx]
                          exact Hhq16.out
                      have hLs' : ∀ x ∈ LL ++ [S], x.size = 16 := fun x hx => by
                        rcases List.mem_append.1 hx with hx | hx
                        · exact HhLs.out x hx
                        · rw [List.mem_singleton] at hx
                          rw [hx]
                          exact HhSs.out
                      have Hap := Lib.hid (str_apart2 H14a.out H15a.out hAs' HhLs.out (fun h => by simp at h) (fun h => (Hhnil.out (List.length_eq_zero_iff.1 (by have h9 := HLA.out; rw [h] at h9; exact h9.symm))).2))
                      have h15n := str_snoc hown15 rfl
                      have h14n : StrAt w18 _ _ _ := owns_keep H14a.out hkg (fun kk hk2 e => Hap.out kk hk2 e)
                      have hhn := Hha.out.grown H15a.out hkg
                      have h13n := H13a.out.keep hkg (fun e => by have := (H15a.out.lt _ e).1; omega)
                      have hbn := HbWa.out.trans (keep_below (B := w.heap.size) hkg (fun kk hk2 e => by have := (H15a.out.lt _ e).1; omega) HbWa.out.size)
                      have hAll : ∀ (k : Nat) (x l : ByteArray), (AL ++ [q])[k]? = some x → (LL ++ [S])[k]? = some l → (x, l) ∈ Q.d.nm := by
                        intro k x l h1 h2
                        rw [HhQnm.out]
                        by_cases hk : k < AL.length
                        · rw [List.getElem?_append_left hk] at h1
                          rw [List.getElem?_append_left (by have := HLA.out; omega)] at h2
                          exact HhPsub.out _ (HhAL.out k x l h1 h2)
                        · rw [List.getElem?_append_right (by omega)] at h1
                          rw [List.getElem?_append_right (by have := HLA.out; omega)] at h2
                          have hk0 : k - AL.length = 0 := by
                            have := (List.getElem?_eq_some_iff.1 h1).1
                            simp at this
                            omega
                          rw [hk0] at h1
                          rw [HLA.out, hk0] at h2
                          rw [← Option.some.inj h1, ← Option.some.inj h2]
                          exact HhSin.out
                      have hat : Kp.At w m K s w3.heap.size (i + 1) v14' v15' w18 := ⟨Q, AL ++ [q], LL ++ [S], hhn, HhQg.out, HhQm.out, HhQk.out, by rw [HhQtb.out, HhPtb.out, Hhtb.out], by rw [HhQnm.out]; exact HhPnl.out, HhQcl.out, HhQp.out, HhQr.out, HhQbox.out, by rw [List.length_append, HhAl.out]; rfl, by rw [List.length_append, HhLl.out]; rfl, hAll, hAs', hLs', fun h => by simp at h, h14n, h15n, h13n, hbn⟩
                      have Hat := Lib.hid hat
                      clear hat hAll hAs' hLs' hown15 hg15 hkg H14a H15a H13a Hha HbWa Hap h15n h14n hhn h13n hbn
                      go_wp2
                      go_roundw
                      case rel => exact ⟨i + 1, by omega, rfl, Hat.out⟩
                      case measure => simp [intOf]; omega
      · have hil' : ¬ (i : Int) < len := by omega
        obtain ⟨o, AL, LL, hheld, hgood, -, -, -, -, -, -, -, -, -, -, -, -, -, -, -, -, -, hb⟩ := hAt
        obtain ⟨n1, m1, c1, k1, p10, hN, hC⟩ := hheld
        have hRi := refIdlRight_any o.d hgood.d _ _ wr hN hC
        unfold Idl.vals at hRi
        unfold Orc.vals at p10
        have u0 : wr.cell? ⟨w3.heap.size, 0, none⟩ = some (.int .i64 o.m) := p10.cell 0
        have u1 : wr.cell? ⟨w3.heap.size, 1, none⟩ = some (.string o.key) := p10.cell 1
        have u2 : wr.cell? ⟨w3.heap.size, 2, none⟩ = some (.string o.d.tb) := p10.cell 2
        have u3 : wr.cell? ⟨w3.heap.size, 3, none⟩ = some (.int .i64 (o.d.pos : Int)) := p10.cell 3
        have u4 : wr.cell? ⟨w3.heap.size, 4, none⟩ = some (.slice n1 o.d.nm.length m1) := p10.cell 4
        have u5 : wr.cell? ⟨w3.heap.size, 5, none⟩ = some (.slice c1 o.d.cl.length k1) := p10.cell 5
        have u6 : wr.cell? ⟨w3.heap.size, 6, none⟩ = some (.bool o.d.clash) := p10.cell 6
        have HRi := Lib.hid hRi
        have Hb := Lib.hid hb
        clear hRi hb hN hC p10 hgood
        go_wp2_with fail
        refine HRi.out.mono ?_
        rintro e wz ⟨rfl, hbz⟩
        have Hbz := Lib.hid (below_seq Hb.out hbz)
        clear hbz
        go_wp2
        go_ret
        exact ⟨rfl, Hbz.out⟩
    · have h10' : ¬ (i : Int) < 10 := by omega
      by_cases hil : i < len
      · have hil' : (i : Int) < len := by omega
        obtain ⟨o, AL, LL, hheld, hgood, -, -, -, -, -, -, -, -, -, -, -, -, -, -, -, -, -, hb⟩ := hAt
        obtain ⟨n1, m1, c1, k1, p10, hN, hC⟩ := hheld
        have hRi := refIdlRight_any o.d hgood.d _ _ wr hN hC
        unfold Idl.vals at hRi
        unfold Orc.vals at p10
        have u0 : wr.cell? ⟨w3.heap.size, 0, none⟩ = some (.int .i64 o.m) := p10.cell 0
        have u1 : wr.cell? ⟨w3.heap.size, 1, none⟩ = some (.string o.key) := p10.cell 1
        have u2 : wr.cell? ⟨w3.heap.size, 2, none⟩ = some (.string o.d.tb) := p10.cell 2
        have u3 : wr.cell? ⟨w3.heap.size, 3, none⟩ = some (.int .i64 (o.d.pos : Int)) := p10.cell 3
        have u4 : wr.cell? ⟨w3.heap.size, 4, none⟩ = some (.slice n1 o.d.nm.length m1) := p10.cell 4
        have u5 : wr.cell? ⟨w3.heap.size, 5, none⟩ = some (.slice c1 o.d.cl.length k1) := p10.cell 5
        have u6 : wr.cell? ⟨w3.heap.size, 6, none⟩ = some (.bool o.d.clash) := p10.cell 6
        have HRi := Lib.hid hRi
        have Hb := Lib.hid hb
        clear hRi hb hN hC p10 hgood
        go_wp2_with fail
        refine HRi.out.mono ?_
        rintro e wz ⟨rfl, hbz⟩
        have Hbz := Lib.hid (below_seq Hb.out hbz)
        clear hbz
        go_wp2
        go_ret
        exact ⟨rfl, Hbz.out⟩
      · have hil' : ¬ (i : Int) < len := by omega
        obtain ⟨o, AL, LL, hheld, hgood, -, -, -, -, -, -, -, -, -, -, -, -, -, -, -, -, -, hb⟩ := hAt
        obtain ⟨n1, m1, c1, k1, p10, hN, hC⟩ := hheld
        have hRi := refIdlRight_any o.d hgood.d _ _ wr hN hC
        unfold Idl.vals at hRi
        unfold Orc.vals at p10
        have u0 : wr.cell? ⟨w3.heap.size, 0, none⟩ = some (.int .i64 o.m) := p10.cell 0
        have u1 : wr.cell? ⟨w3.heap.size, 1, none⟩ = some (.string o.key) := p10.cell 1
        have u2 : wr.cell? ⟨w3.heap.size, 2, none⟩ = some (.string o.d.tb) := p10.cell 2
        have u3 : wr.cell? ⟨w3.heap.size, 3, none⟩ = some (.int .i64 (o.d.pos : Int)) := p10.cell 3
        have u4 : wr.cell? ⟨w3.heap.size, 4, none⟩ = some (.slice n1 o.d.nm.length m1) := p10.cell 4
        have u5 : wr.cell? ⟨w3.heap.size, 5, none⟩ = some (.slice c1 o.d.cl.length k1) := p10.cell 5
        have u6 : wr.cell? ⟨w3.heap.size, 6, none⟩ = some (.bool o.d.clash) := p10.cell 6
        have HRi := Lib.hid hRi
        have Hb := Lib.hid hb
        clear hRi hb hN hC p10 hgood
        go_wp2_with fail
        refine HRi.out.mono ?_
        rintro e wz ⟨rfl, hbz⟩
        have Hbz := Lib.hid (below_seq Hb.out hbz)
        clear hbz
        go_wp2
        go_ret
        exact ⟨rfl, Hbz.out⟩

theorem own : ownKnob Tryz.prog.godebug = none := by kernel_rfl
theorem lay : laidOutB Tryz.prog = true := by kernel_rfl

set_option maxRecDepth 100000 in
theorem lifted (os : Os) (started : os.Started) (H : Type) (enc : TypeId × Value → H) :
    ReturnsInHanded {} Tryz.checked os 5 .any (Rows.oracleKeepsSpec.pre6 enc Tryz.prog Tryz.f5 Rows.oracleKeepsRow.domain false) (Rows.oracleKeepsSpec.post enc Tryz.prog Tryz.f5 false true false false) := by
  refine returnsInHanded_of_change_shaped (C := Tryz.checked) own started (by kernel_rfl) Tryz.func5
    (ChangeSpec.witness6 (enc := enc) (C := Tryz.checked) false ⟨#[], #[.bool false, .int .i64 0, .slice none 0 0, .bool false, .slice none 0 0], []⟩ 8 (by kernel_rfl) (by kernel_rfl) (by kernel_rfl) (by kernel_rfl)) ?_
  intro W base args ds gs before hval0 hW hcnd hsz0 hsh _
  have hval : ∀ (j : Nat) t v, Tryz.f5.params[j]? = some t → args[j]? = some v → Value.okWide Tryz.prog W .any base t v := hval0
  have hsz : (DataW.weightsEach Tryz.prog (Tryz.f5.params.toList ++ Rows.oracleKeepsSpec.plain.varTypes Tryz.prog) (ds ++ gs)).all (· ≤ reachBytes) = true := hsz0
  have hW' := hW
  obtain ⟨p, q, hA0, hV, rfl, hfz, hnd⟩ := hW
  have hA : DataW.TrodAll enc Tryz.prog W 0 (fun _ => true) true Tryz.f5.params.toList args.toList ds p := hA0
  rw [Tryz.params5] at hA hval hsz
  obtain ⟨v0, vs0, d0, ds0, p0, q0, hargs, rfl, rfl, h0, r0⟩ := trodAll_cons hA
  obtain ⟨v1, vs1, d1, ds1, p1, q1, rfl, rfl, rfl, h1, r1⟩ := trodAll_cons r0
  obtain ⟨v2, vs2, d2, ds2, p2, q2, rfl, rfl, rfl, h2, r2⟩ := trodAll_cons r1
  obtain ⟨v3, vs3, d3, ds3, p3, q3, rfl, rfl, rfl, h3, r3⟩ := trodAll_cons r2
  obtain ⟨v4, vs4, d4, ds4, p4, q4, rfl, rfl, rfl, h4, r4⟩ := trodAll_cons r3
  obtain ⟨rfl, rfl, rfl⟩ := trodAll_nil r4
  obtain rfl : args = #[v0, v1, v2, v3, v4] := by cases args; simp_all
  obtain ⟨rfl, rfl⟩ := trodVars_none hV
  obtain ⟨a0, rfl, rfl, rfl⟩ := open_bool Tryz.underlying4 (hval 0 4 v0 rfl rfl) h0
  obtain ⟨a1, rfl, rfl, rfl, w1⟩ := open_int Tryz.underlying3 (hval 1 3 v1 rfl rfl) h1
  have k2 := ints_open Tryz.underlying55 Tryz.underlying3 (by kernel_rfl) (hval 2 55 v2 rfl rfl) h2
  obtain ⟨a3, rfl, rfl, rfl⟩ := open_bool Tryz.underlying4 (hval 3 4 v3 rfl rfl) h3
  have k4 := rows_open Tryz.underlying24 Tryz.underlying25 Tryz.underlying3 (by kernel_rfl) (by kernel_rfl) (hval 4 24 v4 rfl rfl) h4
  obtain ⟨kw, hkw⟩ := Sha.words_of hsh
  letI : Sha.Words := ⟨kw⟩
  have hRI : Sha.RoundIn W := hkw
  refine (walk a0 a1 (bounds_i64 w1) v2 a3 v4 W hRI k2 k4).mono fun e W' ⟨he, hg⟩ => ?_
  subst he
  have hts : ∀ t ∈ Tryz.f5.params.toList, Tryz.prog.readableRec t = true ∧ t < Tryz.prog.types.size := by
    rw [Tryz.params5]
    intro t ht
    simp only [List.mem_cons, List.not_mem_nil, or_false] at ht
    rcases ht with rfl | rfl | rfl | rfl | rfl <;> exact ⟨by kernel_rfl, of_decide_eq_true (by kernel_rfl)⟩
  exact ⟨_, rfl, post_true lay hts (by kernel_rfl) Tryz.underlying4 rfl rfl hW' hg⟩

theorem proved : Rows.OracleKeepsSaid :=
  OpenClaim.holds_of_wide 5 Tryz.f5 rfl rfl rfl rfl rfl rfl rfl ⟨rfl, rfl, rfl, rfl, rfl⟩ rfl rfl rfl rfl rfl (by kernel_rfl) Tryz.func5 (by kernel_rfl)
    (of_decide_eq_true (by kernel_rfl)) (by unfold Func.isWrapper; first | (rw [if_pos (by decide +kernel)]; kernel_rfl) | (rw [if_neg (by decide +kernel)]; exact ⟨rfl, rfl⟩))
    (fun os started H enc _ => lifted os started H enc)
#print axioms proved

end Go.Proofs.YtjnolopnkecmdaaGreat.oracleKeeps
