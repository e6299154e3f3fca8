/-
  The document's answer of layer 4: mixed.
-/
import Derived.Test.YtkodfifmfpdjoaaRefE
import Derived.Test.YtkodfifmfpdjoaaRefF
import Derived.StillTailTactics
import Derived.Deep.RegionWith
import Derived.Deep.CutRange
namespace Go.Proofs.Ytkodfifmfpdjoaa
open Go.RowKit

set_option maxRecDepth 100000 in
set_option maxHeartbeats 4000000 in
theorem refMixed_any (s : ByteArray) (hs : s.size = 16) (w : World) :
    Calls Try.prog 29 #[.string s] w fun e w' => e = .returned (.string (strOf (Aes.columns Fld.mx (bytesOf s)))) ∧ Below w.heap.size w w' := by
  obtain ⟨i0, hi0, hz0, hz1, hz2⟩ := info_parts LawA.infoByte
  have hRl := Aes.columns_length Fld.mx (bytesOf s)
  have hRg : ∀ c r, c < 4 → r < 4 → (Aes.columns Fld.mx (bytesOf s)).getD (4 * c + r) 0 = Fld.mx [(bytesOf s).getD (4 * c) 0, (bytesOf s).getD (4 * c + 1) 0, (bytesOf s).getD (4 * c + 2) 0, (bytesOf s).getD (4 * c + 3) 0] r := fun c r hc hr => by
    rw [Aes.columns_get (by omega), show (4 * c + r) / 4 = c by omega, show (4 * c + r) % 4 = r by omega]
  obtain ⟨R, hR⟩ : ∃ R, Aes.columns Fld.mx (bytesOf s) = R := ⟨_, rfl⟩
  rw [hR] at hRl hRg
  have HRg := Lib.hid hRg
  have HR := Lib.hid hR
  have Hst := Lib.hid (ShCol.start R w w (Below.refl _ _))
  clear hRg hR
  go_enter Try.func29, Try.ntmps29
  go_wp2
  go_loopw [3, 4] (fun vb vc wr => ShCol R w vb vc wr) (fun _ vc _ => 4 - (intOf vc).toNat)
  case atStart => exact Hst.out
  case round =>
    clear Hst
    obtain ⟨c, hc, rfl, hown, hB⟩ := hrel
    by_cases hlt : c < 4
    · have hlt' : (c : Int) < 4 := by omega
      have e0 := fun W => idx_string s (4 * (c : Int)) (4 * c) (by omega) (by omega) W
      have e1 := fun W => idx_string s (4 * (c : Int) + 1) (4 * c + 1) (by omega) (by omega) W
      have e2 := fun W => idx_string s (4 * (c : Int) + 2) (4 * c + 2) (by omega) (by omega) W
      have e3 := fun W => idx_string s (4 * (c : Int) + 3) (4 * c + 3) (by omega) (by omega) W
      have w0 : IntKind.i64.wrap (4 * (c : Int)) = 4 * (c : Int) := IntWalk.i64_in _ (by omega)
      have w1 : IntKind.i64.wrap (4 * (c : Int) + 1) = 4 * (c : Int) + 1 := IntWalk.i64_in _ (by omega)
      have w2 : IntKind.i64.wrap (4 * (c : Int) + 2) = 4 * (c : Int) + 2 := IntWalk.i64_in _ (by omega)
      have w3 : IntKind.i64.wrap (4 * (c : Int) + 3) = 4 * (c : Int) + 3 := IntWalk.i64_in _ (by omega)
      have HM := Lib.hid (refMix_any _ _ _ _ (bytesOf_all s (4 * c)) (bytesOf_all s (4 * c + 1)) (bytesOf_all s (4 * c + 2)) (bytesOf_all s (4 * c + 3)))
      have g0 := HRg.out c 0 hlt (by decide)
      have g1 := HRg.out c 1 hlt (by decide)
      have g2 := HRg.out c 2 hlt (by decide)
      have g3 := HRg.out c 3 hlt (by decide)
      rw [← g0, ← g1, ← g2, ← g3] at HM
      have htk : R.take (4 * (c + 1)) = R.take (4 * c) ++ [R.getD (4 * c + 0) 0, R.getD (4 * c + 1) 0, R.getD (4 * c + 2) 0, R.getD (4 * c + 3) 0] := Bs.take_four (by omega)
      have Htk := Lib.hid htk
      have Hown := Lib.hid hown
      have HB := Lib.hid hB
      clear g0 g1 g2 g3 htk hown hB
      generalize (bytesOf s).getD (4 * c) 0 = x0 at *
      generalize (bytesOf s).getD (4 * c + 1) 0 = x1 at *
      generalize (bytesOf s).getD (4 * c + 2) 0 = x2 at *
      generalize (bytesOf s).getD (4 * c + 3) 0 = x3 at *
      generalize R.getD (4 * c + 0) 0 = y0 at *
      generalize R.getD (4 * c + 1) 0 = y1 at *
      generalize R.getD (4 * c + 2) 0 = y2 at *
      generalize R.getD (4 * c + 3) 0 = y3 at *
      go_upto_region 5 with fail
      go_cut [5] from 10 to 30 (fun vm wx => ∃ gm : Nat, vm = .pointer (some ⟨gm, 0, none⟩) ∧ Row wx gm 77 #[U y0, U y1, U y2, U y3] ∧ wx.ownsRow w.heap.size 5 1 u3 (4 * c) ((R.take (4 * c)).map U) ∧ Below w.heap.size w wx)
      case first =>
        refine wp_region_any (by kernel_rfl) ?_
        change wpAny _ _ _ _ _ _ _ (World.drew wr)
        refine wpAny_take (i := 0) (v := ?_) rfl (by kernel_rfl) (by kernel_rfl) (by kernel_rfl) (fun _ _ _ h => h) (Or.inl ⟨by rfl, fun _ => by go_simp; rfl⟩) ?_
        refine wpAny_take (i := 1) (v := ?_) rfl (by kernel_rfl) (by kernel_rfl) (by kernel_rfl) (fun _ _ _ h => h) (Or.inl ⟨by rfl, fun _ => by go_simp; rfl⟩) ?_
        refine wpAny_take (i := 2) (v := ?_) rfl (by kernel_rfl) (by kernel_rfl) (by kernel_rfl) (fun _ _ _ h => h) (Or.inl ⟨by rfl, fun _ => by go_simp; rfl⟩) ?_
        refine wpAny_take (i := 3) (v := ?_) rfl (by kernel_rfl) (by kernel_rfl) (by kernel_rfl) (fun _ _ _ h => h) (Or.inl ⟨by rfl, fun _ => by go_simp; rfl⟩) ?_
        refine wpAny_take (i := 4) (v := ?_) rfl (by kernel_rfl) (by kernel_rfl) (by kernel_rfl) (fun _ _ _ h => h) (Or.inl ⟨by rfl, fun _ => by go_simp; rfl⟩) ?_
        refine wpAny_take (i := 5) (v := ?_) rfl (by kernel_rfl) (by kernel_rfl) (by kernel_rfl) (fun _ _ _ h => h) (Or.inl ⟨by rfl, fun _ => by go_simp; rfl⟩) ?_
        refine wpAny_take (i := 6) (v := ?_) rfl (by kernel_rfl) (by kernel_rfl) (by kernel_rfl) (fun _ _ _ h => h) (Or.inl ⟨by rfl, fun _ => by go_simp; rfl⟩) ?_
        refine wpAny_take (i := 7) (v := ?_) rfl (by kernel_rfl) (by kernel_rfl) (by kernel_rfl) (fun _ _ _ h => h) (Or.inl ⟨by rfl, fun _ => by go_simp; rfl⟩) ?_
        refine wpAny_take (i := 8) (v := ?_) rfl (by kernel_rfl) (by kernel_rfl) (by kernel_rfl) (fun _ _ _ h => h) (Or.inl ⟨by rfl, fun _ => by go_simp; rfl⟩) ?_
        refine wpAny_take (i := 9) (v := ?_) rfl (by kernel_rfl) (by kernel_rfl) (by kernel_rfl) (fun _ _ _ h => h) (Or.inl ⟨by rfl, fun _ => by go_simp; rfl⟩) ?_
        refine wpAny_take (i := 10) (v := ?_) rfl (by kernel_rfl) (by kernel_rfl) (by kernel_rfl) (fun _ _ _ h => h) (Or.inl ⟨by rfl, fun _ => by go_simp; rfl⟩) ?_
        refine wpAny_take (i := 11) (v := ?_) rfl (by kernel_rfl) (by kernel_rfl) (by kernel_rfl) (fun _ _ _ h => h) (Or.inl ⟨by rfl, fun _ => by go_simp; rfl⟩) ?_
        refine wpAny_take (i := 12) (v := ?_) rfl (by kernel_rfl) (by kernel_rfl) (by kernel_rfl) (fun _ _ _ h => h) (Or.inl ⟨by rfl, fun _ => by go_simp; rfl⟩) ?_
        refine wpAny_take (i := 13) (v := ?_) rfl (by kernel_rfl) (by kernel_rfl) (by kernel_rfl) (fun _ _ _ h => h) (Or.inl ⟨by rfl, fun _ => by go_simp; rfl⟩) ?_
        refine wpAny_take (i := 14) (v := ?_) rfl (by kernel_rfl) (by kernel_rfl) (by kernel_rfl) (fun _ _ _ h => h) (Or.inl ⟨by rfl, fun _ => by go_simp; rfl⟩) ?_
        refine wpAny_take (i := 15) (v := ?_) rfl (by kernel_rfl) (by kernel_rfl) (by kernel_rfl) (fun _ _ _ h => h) (Or.inl ⟨by rfl, fun _ => by go_simp; rfl⟩) ?_
        refine wpAny_take (i := 16) (v := ?_) rfl (by kernel_rfl) (by kernel_rfl) (by kernel_rfl) (fun _ _ _ h => h) (Or.inl ⟨by rfl, fun _ => by go_simp; rfl⟩) ?_
        refine wpAny_take (i := 17) (v := ?_) rfl (by kernel_rfl) (by kernel_rfl) (by kernel_rfl) (fun _ _ _ h => h) (Or.inl ⟨by rfl, fun _ => by go_simp; rfl⟩) ?_
        refine wpAny_take (i := 18) (v := ?_) rfl (by kernel_rfl) (by kernel_rfl) (by kernel_rfl) (fun _ _ _ h => h) (Or.inl ⟨by rfl, fun _ => by go_simp; rfl⟩) ?_
        refine wpAny_take (i := 19) (v := ?_) rfl (by kernel_rfl) (by kernel_rfl) (by kernel_rfl) (fun _ _ _ h => h) (Or.inl ⟨by rfl, fun _ => by go_simp; rfl⟩) ?_
        refine wpAny_ready (rs := [20, 21]) (by kernel_rfl) (by simp) ?_
        refine AllReady.cons rfl (fun K hK => ?_) (AllReady.cons rfl (fun K hK => ?_) AllReady.nil)
        · go_simp
          refine (HM.out _).mono ?_
          rintro e w4 ⟨rfl, hb4⟩
          refine hK _ _ ?_
          clear hK K
          have Hown4 := Lib.hid (owns_below Hown.out (below_drew hb4))
          have HB4 := Lib.hid (below_seq HB.out (below_drew hb4))
          clear hb4
          refine wpAny_ready (rs := [21]) (by kernel_rfl) (by simp) ?_
          refine AllReady.cons rfl (fun K hK => ?_) AllReady.nil
          go_simp
          refine hK _ _ ?_
          clear hK K
          refine wpAny_ready (rs := [22]) (by kernel_rfl) (by simp) ?_
          refine AllReady.cons rfl (fun K hK => ?_) AllReady.nil
          go_simp
          refine hK _ _ ?_
          clear hK K
          refine wpAny_done (by kernel_rfl) ?_ _
          go_wp2
          go_meet
          exact ⟨w4.heap.size, rfl, Row.new _ _ _, Hown4.out.alloc _, HB4.out.alloc HB4.out.size _⟩
        · go_simp
          refine hK _ _ ?_
          clear hK K
          refine wpAny_ready (rs := [20]) (by kernel_rfl) (by simp) ?_
          refine AllReady.cons rfl (fun K hK => ?_) AllReady.nil
          go_simp
          refine (HM.out _).mono ?_
          rintro e w4 ⟨rfl, hb4⟩
          refine hK _ _ ?_
          clear hK K
          have hrow := (Row.new wr 77 #[.int .u8 0, .int .u8 0, .int .u8 0, .int .u8 0]).drew.below hb4 (by simp)
          have hb5 : Below wr.heap.size wr w4 := below_seq (((Below.refl _ wr).alloc (Nat.le_refl _) (.cells #[.int .u8 0, .int .u8 0, .int .u8 0, .int .u8 0] 77)).drew) hb4
          have hown4 := owns_below Hown.out hb5
          have hB4 := below_seq HB.out hb5
          have hwg : w.heap.size ≤ wr.heap.size := HB.out.size
          have hng : ∀ k, u3.ownBlock = some k → k ≠ wr.heap.size := fun k hk e => by have := (Hown.out.lt k hk).2; omega
          obtain ⟨gm, hgm⟩ : ∃ gm, wr.heap.size = gm := ⟨_, rfl⟩
          rw [hgm] at hrow hng hwg ⊢
          obtain ⟨⟨p0, p1, p2, p3⟩, f0, f1, f2, f3⟩ := row_four hrow
          have hrow4 := (((hrow.store 0 (U y0)).store 1 (U y1)).store 2 (U y2)).store 3 (U y3)
          have hk4 := ((((Keep.refl (fun k => k ≠ gm) w4).setCell (p := ⟨gm, 0, none⟩) (fun h => absurd rfl h) (U y0)).setCell (p := ⟨gm, 1, none⟩) (fun h => absurd rfl h) (U y1)).setCell (p := ⟨gm, 2, none⟩) (fun h => absurd rfl h) (U y2)).setCell (p := ⟨gm, 3, none⟩) (fun h => absurd rfl h) (U y3)
          have Hown5 := Lib.hid (owns_keep hown4 hk4 (fun k hk => hng k hk))
          have HB5 := Lib.hid ((((hB4.setCell (p := ⟨gm, 0, none⟩) hwg (U y0)).setCell (p := ⟨gm, 1, none⟩) hwg (U y1)).setCell (p := ⟨gm, 2, none⟩) hwg (U y2)).setCell (p := ⟨gm, 3, none⟩) hwg (U y3))
          have Hrow5 := Lib.hid hrow4
          clear hb4 hrow hb5 hown4 hB4 hwg hng hrow4 hk4
          refine wpAny_ready (rs := [22]) (by kernel_rfl) (by simp) ?_
          refine AllReady.cons rfl (fun K hK => ?_) AllReady.nil
          go_simp
          refine hK _ _ ?_
          clear hK K
          refine wpAny_done (by kernel_rfl) ?_ _
          go_wp2
          go_meet
          exact ⟨gm, rfl, Hrow5.out, Hown5.out, HB5.out⟩
      case rest =>
        obtain ⟨gm, rfl, hrow, hown, hB⟩ := hcut
        obtain ⟨⟨p0, p1, p2, p3⟩, -, -, -, -⟩ := row_four hrow
        have hnews : ∀ j u, [U y0, U y1, U y2, U y3][j]? = some u → (wc.alloc (.cells #[U y0, U y1, U y2, U y3] 5)).cell? ((⟨wc.heap.size, 0, none⟩ : Addr).add j) = some u := fun j u hu => by
          rw [Addr.add_mid, Nat.zero_add]
          exact ((Row.new wc 5 #[U y0, U y1, U y2, U y3]).cell j).trans (by simpa using hu)
        have Hnews := Lib.hid hnews
        have Hownc := Lib.hid (hown.alloc (.cells #[U y0, U y1, U y2, U y3] 5))
        have HBc := Lib.hid (hB.alloc hB.size (.cells #[U y0, U y1, U y2, U y3] 5))
        clear hnews hrow hown hB e0 e1 e2 e3 w0 w1 w2 w3 HM Hown HB
        go_wp2_with (at_builtin; go_must (refine wpList_append_own _ rfl _ _ 33 rfl w.heap.size 5 i0 _ 1 1 Try.underlying33 hi0 hz0 hz1 hz2 rfl (by decide) _ _ _ rfl Hownc.out ⟨wc.heap.size, 0, none⟩ 4 4 [U y0, U y1, U y2, U y3] rfl rfl Hnews.out (by simp [Value.oneCell']) (by unfold maxLen; omega) (by omega) HBc.out.size ?_); intro v' w5 hown' hgrow _)
        have hkp := ((Keep.below (S := fun _ => True) HBc.out).on (keep_grown hgrow) (fun k _ hl e => by have := (Hownc.out.lt k e).1; omega)).toBelow (fun _ _ => trivial)
        have Hnx : Hid (ShCol R w v' (.int .i64 ((c : Int) + 1)) w5) := Lib.hid ⟨c + 1, hlt, by go_num, by
          rw [Htk.out, List.map_append]
          exact hown', hkp⟩
        go_roundw
        case rel => exact Hnx.out
        case measure => simp [intOf]; omega
    · obtain rfl : c = 4 := by omega
      have hlt' : ¬ ((4 : Nat) : Int) < 4 := by decide
      rw [List.take_of_length_le (by omega)] at hown
      have hcv := conv_owned hRl hown
      have HB := Lib.hid hB
      clear hown hB
      go_wp2
      go_ret
      exact ⟨by rw [HR.out]; rfl, HB.out⟩

end Go.Proofs.Ytkodfifmfpdjoaa
